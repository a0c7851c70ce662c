/- The quick evaluator is sound: rows of operations. -/
import Derived.Test.YtdglniabnomneaaGreatAbsEHe
namespace Go.Abs

/- the boxes set aside -/
def unb (s : HS) : HS := { s with bx := [] }
theorem Nx.ub {s s' : HS} {h h' : Heap} {n n' : Nat} {lg : Log} (a : Nx s h n lg s' h' n') : Nx (unb s) h n lg (unb s') h' n' :=
  ⟨⟨a.rel.look, a.rel.ok, a.rel.num, a.rel.mw, a.rel.thr⟩, a.le, rfl, a.thr, a.rd, a.wr, a.own, a.mw, a.mw2, a.mwle, a.frame⟩
theorem Rel.ub {s : HS} {h : Heap} {n : Nat} (a : Rel s h n) : Rel (unb s) h n := ⟨a.look, a.ok, a.num, a.mw, a.thr⟩
theorem Rel.bu {s : HS} {h : Heap} {n : Nat} (a : Rel (unb s) h n) : Rel s h n := ⟨a.look, a.ok, a.num, a.mw, a.thr⟩
theorem ub_push {A : Ann} {f : Nat} {o : Oper} {v : AV} {s : HS} : unb (pushB A f o v s) = unb s := by
  unfold pushB
  split
  · split
    · split <;> rfl
    · rfl
  · rfl

/- registers and boxes -/
def FrR (R : RG) (s : HS) (fr : Fr) : Prop := Regs R fr.regs ∧ s.bx = fr.boxes

section
variable {P : Program} {A : Ann} {f nt : Nat} {r : AV}

theorem kC_put {o : Oper} {v : AV} {s : HS} {R : RG} {fr : Fr} {d : Nat} (hd : o.dst = some d) (hn : d < nt) (hf : FrR R s fr) (ht : d ≤ 511) : ∃ fr', putA A f nt o v fr = some fr' ∧ FrR (putT R d v) (pushB A f o v s) fr' := by
  refine ⟨{ regs := upd fr.regs d v, boxes := if isBox o.op && !A.esc f d then (match v with | .ptr id _ => id :: fr.boxes | _ => fr.boxes) else fr.boxes }, ?_, ?_, ?_⟩
  · unfold putA
    rw [hd]
    simp only []
    rw [if_pos hn]
    rfl
  · exact hf.1.put v ht
  · unfold pushB
    rw [hd]
    simp only []
    split
    · cases v <;> first | exact hf.2 | (show _ :: s.bx = _ :: fr.boxes; rw [hf.2])
    · exact hf.2

/- an operation that is done -/
theorem put_ok {ops : Array Oper} {o0 : Oper} {o : SO} {cl : CL} {R : RG} {s : HS} {K : RG → HS → RT} {fr : Fr} {h : Heap} {n : Nat} (hc : CLok P A cl) (h1 : o.dst = o0.dst) (h2 : o.k = slAll P A f o0.dst o0.op) (hd : dokO nt o.dst = true) (hw : wantedA ops o0 fr.regs = some true)
    (hf : FrR R s fr) (hr : Rel s h n) (e : putO o.dst (kC o.k) cl R s K = some r) :
    ∃ fr' h' n' lg R' s', (∃ k0, ∀ k, k0 ≤ k → stepA (callN P A k) P A f nt ops o0 fr h n = some (fr', h', n', lg)) ∧ Nx (unb s) h n lg (unb s') h' n' ∧ FrR R' s' fr' ∧ K R' s' = some r := by
  have fin : ∀ {v h' n' lg fr'} {k0 : Nat}, (∀ k, k0 ≤ k → opV (callN P A k) P A f o0 fr.regs h n = some (v, h', n', lg)) → putA A f nt o0 v fr = some fr' → ∃ k0, ∀ k, k0 ≤ k → stepA (callN P A k) P A f nt ops o0 fr h n = some (fr', h', n', lg) := by
    intro v h' n' lg fr' k0 hv hp
    refine ⟨k0, fun k hk => ?_⟩
    unfold stepA
    rw [hw]
    simp only [AM.bind]
    rw [hv k hk]
    simp only [hp]
    simp [AM.lift, AM.pure]
  cases hdst : o.dst with
  | none =>
    rw [hdst] at e
    replace e : kC o.k cl R s (fun _ s => K R s) = some r := e
    obtain ⟨v, h', n', lg, s1, ⟨k0, hv⟩, nx, e⟩ := kC_ok o.k _ cl o0 R s _ fr.regs h n hc h2 hf.1 hr e
    have hp : pushB A f o0 v s1 = s1 := by unfold pushB; rw [← h1, hdst]
    rw [hp] at e
    refine ⟨fr, h', n', lg, R, s1, fin hv (by unfold putA; rw [← h1, hdst]), nx.ub, ⟨hf.1, by rw [nx.bx]; exact hf.2⟩, e⟩
  | some d =>
    rw [hdst] at e hd
    replace e : kC o.k cl R s (fun v s => pT d v R fun R => K R s) = some r := e
    obtain ⟨v, h', n', lg, s1, ⟨k0, hv⟩, nx, e⟩ := kC_ok o.k _ cl o0 R s _ fr.regs h n hc h2 hf.1 hr e
    obtain ⟨ht, e⟩ := pT_el e
    obtain ⟨fr', p1, p2⟩ := kC_put (A := A) (f := f) (nt := nt) (o := o0) (v := v) (s := s1) (R := R) (fr := fr) (h1.symm.trans hdst) (ble_le hd) ⟨hf.1, by rw [nx.bx]; exact hf.2⟩ ht
    refine ⟨fr', h', n', lg, _, _, fin hv p1, ?_, p2, e⟩
    rw [ub_push]
    exact nx.ub

theorem und_ok {ops : Array Oper} {o0 : Oper} {o : SO} {cl : CL} {R : RG} {s : HS} {K : RG → HS → RT} {fr : Fr} {h : Heap} {n : Nat} (h1 : o.dst = o0.dst) (hd : dokO nt o.dst = true) (hw : wantedA ops o0 fr.regs = some false)
    (hf : FrR R s fr) (hr : Rel s h n) (e : undO o.dst cl R s K = some r) :
    ∃ fr' h' n' lg R' s', (∃ k0, ∀ k, k0 ≤ k → stepA (callN P A k) P A f nt ops o0 fr h n = some (fr', h', n', lg)) ∧ Nx (unb s) h n lg (unb s') h' n' ∧ FrR R' s' fr' ∧ K R' s' = some r := by
  cases hdst : o.dst with
  | none =>
    rw [hdst] at e
    refine ⟨fr, h, n, ([], []), R, s, ⟨0, fun k _ => ?_⟩, Nx.refl hr.ub, hf, e⟩
    unfold stepA
    rw [hw, ← h1, hdst]
    rfl
  | some d =>
    rw [hdst] at e hd
    replace e : pT d .undef R (fun R => K R s) = some r := e
    obtain ⟨ht, e⟩ := pT_el e
    refine ⟨{ fr with regs := upd fr.regs d .undef }, h, n, ([], []), _, s, ⟨0, fun k _ => ?_⟩, Nx.refl hr.ub, ⟨hf.1.put _ ht, hf.2⟩, e⟩
    unfold stepA
    rw [hw, ← h1, hdst]
    simp only []
    rw [if_pos (show d < nt from ble_le hd)]
    rfl

theorem step_ok {ops : Array Oper} {o0 : Oper} {o : SO} {cl : CL} {R : RG} {s : HS} {K : RG → HS → RT} {fr : Fr} {h : Heap} {n : Nat} (hc : CLok P A cl) (ho : slO P A f ops o0 = some o) (hd : dokO nt o.dst = true)
    (hf : FrR R s fr) (hr : Rel s h n) (e : stepC o cl R s K = some r) :
    ∃ fr' h' n' lg R' s', (∃ k0, ∀ k, k0 ≤ k → stepA (callN P A k) P A f nt ops o0 fr h n = some (fr', h', n', lg)) ∧ Nx (unb s) h n lg (unb s') h' n' ∧ FrR R' s' fr' ∧ K R' s' = some r := by
  obtain ⟨h1, h2, h3⟩ := slO_some ho
  obtain ⟨dst, g, k⟩ := o
  rcases h3 with ⟨g1, g2⟩ | ⟨j, w, e', g1, g2, g3⟩
  · simp only at g2
    subst g2
    replace e : putO dst (kC k) cl R s K = some r := e
    exact put_ok (o := ⟨dst, none, k⟩) hc h1 h2 hd (by unfold wantedA; rw [g1]) hf hr e
  · simp only at g2
    subst g2
    replace e : xT e' R (fun v => wantV v w (putO dst (kC k) cl R s K) (undO dst cl R s K)) = some r := e
    have hv := hf.1.sat
    obtain ⟨e1, e⟩ := xT_el e
    have hreg := hv _ _ e1
    have hw : wantedA ops o0 fr.regs = (match lookT R e' with
      | .bool b => some (b == w)
      | .tup [] => some false
      | _ => none) := by
      unfold wantedA
      rw [g1]
      simp only [g3, hreg]
      rfl
    generalize lookT R e' = v at e hw
    cases v with
    | bool b =>
      replace e : Bool.rec (motive := fun _ => RT) (undO dst cl R s K) (putO dst (kC k) cl R s K) (eqB b w) = some r := e
      rw [eqB_eq] at e
      simp only at hw
      rcases br_b e with ⟨hb, e⟩ | ⟨hb, e⟩
      · rw [hb] at hw
        exact und_ok (o := ⟨dst, some (e', w), k⟩) h1 hd hw hf hr e
      · rw [hb] at hw
        exact put_ok (o := ⟨dst, some (e', w), k⟩) hc h1 h2 hd hw hf hr e
    | tup l =>
      cases l with
      | nil => exact und_ok (o := ⟨dst, some (e', w), k⟩) h1 hd hw hf hr e
      | cons _ _ => exact (nn e).elim
    | _ => exact (nn e).elim

/- rows -/
theorem ops_ok {ops : Array Oper} {cl : CL} (hc : CLok P A cl) : ∀ {l0 : List Oper} {l : List SO} {R : RG} {s : HS} {K : RG → HS → RT} {fr : Fr} {h : Heap} {n : Nat}, slOs P A f ops l0 = some l → (l.all fun o => dokO nt o.dst) = true → FrR R s fr → Rel s h n → opsC l cl R s K = some r →
    ∃ fr' h' n' lgs R' s', (∃ k0, ∀ k, k0 ≤ k → runLog (callN P A k) P A f nt ops l0 fr h n = some (fr', h', n', lgs)) ∧ Nx (unb s) h n (joinLogs lgs) (unb s') h' n' ∧ FrR R' s' fr' ∧ K R' s' = some r
  | [], l, R, s, K, fr, h, n, hl, hd, hf, hr, e => by
    simp only [slOs, Option.some.injEq] at hl
    subst hl
    exact ⟨fr, h, n, [], R, s, ⟨0, fun k _ => rfl⟩, Nx.refl hr.ub, hf, e⟩
  | o0 :: l0, l, R, s, K, fr, h, n, hl, hd, hf, hr, e => by
    simp only [slOs] at hl
    split at hl
    · rename_i o l' ho hl'
      simp only [Option.some.injEq] at hl
      subst hl
      simp only [List.all_cons, Bool.and_eq_true] at hd
      replace e : stepC o cl R s (fun R s => opsC l' cl R s K) = some r := e
      obtain ⟨fr1, h1, n1, lg1, R1, s1, ⟨k1, c1⟩, nx1, hf1, e⟩ := step_ok hc ho hd.1 hf hr e
      obtain ⟨fr2, h2, n2, lgs, R2, s2, ⟨k2, c2⟩, nx2, hf2, e⟩ := ops_ok hc hl' hd.2 hf1 nx1.rel.bu e
      refine ⟨fr2, h2, n2, (lg1, n, n1) :: lgs, R2, s2, ⟨max k1 k2, fun k hk => ?_⟩, ?_, hf2, e⟩
      · unfold runLog
        rw [c1 k (by omega)]
        simp only
        rw [c2 k (by omega)]
      · have := nx1.trans nx2
        simpa [joinLogs] using this
    · cases hl

/- what is told of one -/
structure LEok (x : LogN) (e : LE) : Prop where
  a : e.a = x.2.1
  b : e.b = x.2.2
  le : x.2.1 ≤ x.2.2
  rd : ∀ id ∈ x.1.1, id < x.2.1 → id ∈ e.rd
  wr : ∀ id ∈ x.1.2, id < x.2.1 → id ∈ e.wr
  own : ∀ id, id ∈ x.1.1 ∨ id ∈ x.1.2 → id < x.2.2

def LEs : Nat → List LogN → List LE → Prop
  | _, [], [] => True
  | n, x :: l, e :: m => n ≤ x.2.1 ∧ LEok x e ∧ LEs x.2.2 l m
  | _, _, _ => False

theorem stepL_ok {ops : Array Oper} {o0 : Oper} {o : SO} {cl : CL} {R : RG} {s : HS} {K : LE → RG → HS → RT} {fr : Fr} {h : Heap} {n : Nat} (hc : CLok P A cl) (ho : slO P A f ops o0 = some o) (hd : dokO nt o.dst = true)
    (hf : FrR R s fr) (hr : Rel s h n) (e : stepL (stepC o) cl R s K = some r) :
    ∃ fr' h' n' lg le R' s', (∃ k0, ∀ k, k0 ≤ k → stepA (callN P A k) P A f nt ops o0 fr h n = some (fr', h', n', lg)) ∧ Nx (unb s) h n lg (unb s') h' n' ∧ LEok (lg, n, n') le ∧ FrR R' s' fr' ∧ K le R' s' = some r := by
  obtain ⟨H, m, bx, thr, rd, wr, mw⟩ := s
  have hm : m = n := hr.num
  subst hm
  replace e : stepC o cl R ⟨H, m, bx, m, [], [], mw⟩ (fun R s' => HS.rec (motive := fun _ => RT) (fun h n' bx _ rd' wr' mw => mergeC rd' thr rd fun rd => mergeC wr' thr wr fun wr => K ⟨rd', wr', m, n'⟩ R ⟨h, n', bx, thr, rd, wr, mw⟩) s') = some r := e
  obtain ⟨fr1, h1, n1, lg1, R1, s1, hk, nx, hf1, e⟩ := step_ok (s := ⟨H, m, bx, m, [], [], mw⟩) hc ho hd hf ⟨hr.look, hr.ok, hr.num, hr.mw, Nat.le_refl _⟩ e
  obtain ⟨H1, m1, bx1, thr1, rd1, wr1, mw1⟩ := s1
  replace e : mergeC rd1 thr rd (fun rd => mergeC wr1 thr wr fun wr => K ⟨rd1, wr1, m, m1⟩ R1 ⟨H1, m1, bx1, thr, rd, wr, mw1⟩) = some r := e
  obtain ⟨rd2, a1, a2, e⟩ := mergeC_el e
  obtain ⟨wr2, b1, b2, e⟩ := mergeC_el e
  have hthr : thr ≤ m := hr.thr
  have hn1 : m1 = n1 := nx.rel.num
  refine ⟨fr1, h1, n1, lg1, ⟨rd1, wr1, m, m1⟩, R1, ⟨H1, m1, bx1, thr, rd2, wr2, mw1⟩, hk, ?_, ?_, hf1, e⟩
  · refine ⟨⟨nx.rel.look, nx.rel.ok, nx.rel.num, nx.rel.mw, Nat.le_trans hthr nx.le⟩, nx.le, rfl, rfl, ?_, ?_, nx.own, nx.mw, nx.mw2, nx.mwle, nx.frame⟩
    · rintro id (hi | ⟨hl, hi⟩)
      · exact a1 id hi
      · exact a2 id (nx.rd id (.inr ⟨Nat.lt_of_lt_of_le hl hthr, hi⟩)) hl
    · rintro id (hi | ⟨hl, hi⟩)
      · exact b1 id hi
      · exact b2 id (nx.wr id (.inr ⟨Nat.lt_of_lt_of_le hl hthr, hi⟩)) hl
  · exact ⟨rfl, hn1, nx.le, fun id hi hl => nx.rd id (.inr ⟨hl, hi⟩), fun id hi hl => nx.wr id (.inr ⟨hl, hi⟩), nx.own⟩

theorem log_ok {ops : Array Oper} {cl : CL} (hc : CLok P A cl) : ∀ {l0 : List Oper} {l : List SO} {R : RG} {s : HS} {K : List LE → RG → HS → RT} {fr : Fr} {h : Heap} {n : Nat}, slOs P A f ops l0 = some l → (l.all fun o => dokO nt o.dst) = true → FrR R s fr → Rel s h n → logC l cl R s K = some r →
    ∃ fr' h' n' lgs es R' s', (∃ k0, ∀ k, k0 ≤ k → runLog (callN P A k) P A f nt ops l0 fr h n = some (fr', h', n', lgs)) ∧ Nx (unb s) h n (joinLogs lgs) (unb s') h' n' ∧ LEs n lgs es ∧ FrR R' s' fr' ∧ K es R' s' = some r
  | [], l, R, s, K, fr, h, n, hl, hd, hf, hr, e => by
    simp only [slOs, Option.some.injEq] at hl
    subst hl
    exact ⟨fr, h, n, [], [], R, s, ⟨0, fun k _ => rfl⟩, Nx.refl hr.ub, trivial, hf, e⟩
  | o0 :: l0, l, R, s, K, fr, h, n, hl, hd, hf, hr, e => by
    simp only [slOs] at hl
    split at hl
    · rename_i o l' ho hl'
      simp only [Option.some.injEq] at hl
      subst hl
      simp only [List.all_cons, Bool.and_eq_true] at hd
      replace e : stepL (stepC o) cl R s (fun le R s => logC l' cl R s fun es R s => K (le :: es) R s) = some r := e
      obtain ⟨fr1, h1, n1, lg1, le, R1, s1, ⟨k1, c1⟩, nx1, hle, hf1, e⟩ := stepL_ok hc ho hd.1 hf hr e
      obtain ⟨fr2, h2, n2, lgs, es, R2, s2, ⟨k2, c2⟩, nx2, hes, hf2, e⟩ := log_ok hc hl' hd.2 hf1 nx1.rel.bu e
      refine ⟨fr2, h2, n2, (lg1, n, n1) :: lgs, le :: es, R2, s2, ⟨max k1 k2, fun k hk => ?_⟩, ?_, ⟨Nat.le_refl _, hle, hes⟩, hf2, e⟩
      · unfold runLog
        rw [c1 k (by omega)]
        simp only
        rw [c2 k (by omega)]
      · have := nx1.trans nx2
        simpa [joinLogs] using this
    · cases hl

theorem LEs.at : ∀ {n : Nat} {lgs : List LogN} {es : List LE}, LEs n lgs es → ∀ {i : Nat} {x : LogN}, lgs[i]? = some x → n ≤ x.2.1 ∧ LEok x (nthE es i)
  | _, [], _, _, _, _, hi => by simp at hi
  | n, y :: l, [], h, _, _, _ => h.elim
  | n, y :: l, e :: m, h, 0, x, hi => by
    simp only [List.getElem?_cons_zero, Option.some.injEq] at hi
    subst hi
    exact ⟨h.1, h.2.1⟩
  | n, y :: l, e :: m, h, i + 1, x, hi => by
    obtain ⟨h1, h2⟩ := LEs.at h.2.2 (i := i) (x := x) (by simpa using hi)
    exact ⟨Nat.le_trans h.1 (Nat.le_trans h.2.1.le h1), h2⟩
theorem LEs.lt : ∀ {n : Nat} {lgs : List LogN} {es : List LE}, LEs n lgs es → ∀ {i j : Nat} {x y : LogN}, i < j → lgs[i]? = some x → lgs[j]? = some y → x.2.2 ≤ y.2.1
  | _, [], _, _, _, _, _, _, _, hi, _ => by simp at hi
  | n, z :: l, [], h, _, _, _, _, _, _, _ => h.elim
  | n, z :: l, e :: m, h, 0, j + 1, x, y, _, hi, hj => by
    simp only [List.getElem?_cons_zero, Option.some.injEq] at hi
    subst hi
    exact (LEs.at h.2.2 (i := j) (x := y) (by simpa using hj)).1
  | n, z :: l, e :: m, h, i + 1, j + 1, x, y, hl, hi, hj => LEs.lt h.2.2 (i := i) (j := j) (by omega) (by simpa using hi) (by simpa using hj)
  | n, z :: l, e :: m, h, i, 0, x, y, hl, hi, hj => by omega

theorem disB_el : ∀ {a b : List Nat}, disB a b = true → ∀ x ∈ a, x ∉ b
  | [], b, _ => by simp
  | y :: a, b, h => by
    replace h : Bool.rec (motive := fun _ => Bool) (disB a b) false (memB b y) = true := h
    cases e : memB b y with
    | true => rw [e] at h; cases h
    | false =>
      rw [e] at h
      intro x hx
      rcases List.mem_cons.1 hx with rfl | hx
      · exact memB_no e
      · exact disB_el h x hx
theorem outB_el {a b : Nat} : ∀ {l : List Nat}, outB a b l = true → ∀ x ∈ l, ¬(a ≤ x ∧ x < b)
  | [], _ => by simp
  | y :: l, h => by
    replace h : Bool.rec (motive := fun _ => Bool) (outB a b l) (Bool.rec (motive := fun _ => Bool) (outB a b l) false (Nat.ble (Nat.succ y) b)) (Nat.ble a y) = true := h
    cases e1 : Nat.ble a y with
    | false =>
      rw [e1] at h
      intro x hx
      rcases List.mem_cons.1 hx with rfl | hx
      · have := ble_nle e1; omega
      · exact outB_el h x hx
    | true =>
      rw [e1] at h
      cases e2 : Nat.ble (Nat.succ y) b with
      | true => rw [e2] at h; cases h
      | false =>
        rw [e2] at h
        intro x hx
        rcases List.mem_cons.1 hx with rfl | hx
        · have := ble_nle e2; omega
        · exact outB_el h x hx
theorem clashB_el {x y : LE} (h : clashB x y = true) : (∀ i ∈ x.wr, i ∉ y.rd) ∧ (∀ i ∈ x.wr, i ∉ y.wr) ∧ (∀ i ∈ y.wr, i ∉ x.rd) ∧ (∀ i ∈ y.rd, ¬(x.a ≤ i ∧ i < x.b)) ∧ ∀ i ∈ y.wr, ¬(x.a ≤ i ∧ i < x.b) := by
  unfold clashB at h
  cases e1 : disB x.wr y.rd with
  | false => rw [e1] at h; cases h
  | true =>
    rw [e1] at h
    cases e2 : disB x.wr y.wr with
    | false => rw [e2] at h; cases h
    | true =>
      rw [e2] at h
      cases e3 : disB y.wr x.rd with
      | false => rw [e3] at h; cases h
      | true =>
        rw [e3] at h
        cases e4 : outB x.a x.b y.rd with
        | false => rw [e4] at h; cases h
        | true =>
          rw [e4] at h
          exact ⟨disB_el e1, disB_el e2, disB_el e3, outB_el e4, outB_el h⟩
theorem clash_no {x y : LogN} {d e : LE} (hx : LEok x d) (hy : LEok y e) (hl : x.2.2 ≤ y.2.1) (h : clashB d e = true) : clash x y = false := by
  obtain ⟨c1, c2, c3, c4, c5⟩ := clashB_el h
  have ry : ∀ id ∈ y.1.1, id < x.2.2 → id ∈ e.rd := fun id hi hlt => hy.rd id hi (by omega)
  have wy : ∀ id ∈ y.1.2, id < x.2.2 → id ∈ e.wr := fun id hi hlt => hy.wr id hi (by omega)
  have r4 : ∀ id ∈ y.1.1, ¬(x.2.1 ≤ id ∧ id < x.2.2) := fun id hi hc => c4 id (ry id hi hc.2) (by rw [hx.a, hx.b]; exact hc)
  have r5 : ∀ id ∈ y.1.2, ¬(x.2.1 ≤ id ∧ id < x.2.2) := fun id hi hc => c5 id (wy id hi hc.2) (by rw [hx.a, hx.b]; exact hc)
  have low : ∀ id, (id ∈ y.1.1 ∨ id ∈ y.1.2) → id < x.2.2 → id < x.2.1 := by
    intro id hi hlt
    rcases hi with hi | hi
    · have := r4 id hi; omega
    · have := r5 id hi; omega
  have d1 : disj x.1.2 y.1.1 = true := by
    unfold disj
    rw [List.all_eq_true]
    intro id hi
    simp only [Bool.not_eq_true', List.contains_eq_mem, decide_eq_false_iff_not]
    intro hc
    have hlt := hx.own id (.inr hi)
    exact c1 id (hx.wr id hi (low id (.inl hc) hlt)) (ry id hc hlt)
  have d2 : disj x.1.2 y.1.2 = true := by
    unfold disj
    rw [List.all_eq_true]
    intro id hi
    simp only [Bool.not_eq_true', List.contains_eq_mem, decide_eq_false_iff_not]
    intro hc
    have hlt := hx.own id (.inr hi)
    exact c2 id (hx.wr id hi (low id (.inr hc) hlt)) (wy id hc hlt)
  have d3 : disj y.1.2 x.1.1 = true := by
    unfold disj
    rw [List.all_eq_true]
    intro id hi
    simp only [Bool.not_eq_true', List.contains_eq_mem, decide_eq_false_iff_not]
    intro hc
    have hlt := hx.own id (.inl hc)
    exact c3 id (wy id hi hlt) (hx.rd id hc (low id (.inr hi) hlt))
  have d4 : ((y.1.1 ++ y.1.2).all fun id => !(decide (x.2.1 ≤ id) && decide (id < x.2.2))) = true := by
    rw [List.all_eq_true]
    intro id hi
    have : ¬(x.2.1 ≤ id ∧ id < x.2.2) := by
      rcases List.mem_append.1 hi with hi | hi
      · exact r4 id hi
      · exact r5 id hi
    simp only [Bool.not_eq_true', Bool.and_eq_false_iff, decide_eq_false_iff_not]
    omega
  unfold clash
  rw [d1, d2, d3, d4]
  rfl
theorem calmB_el {es : List LE} : ∀ {ps : List (Nat × Nat)}, calmB es ps = true → ∀ p ∈ ps, clashB (nthE es p.1) (nthE es p.2) = true
  | [], _ => by simp
  | q :: ps, h => by
    replace h : Bool.rec (motive := fun _ => Bool) false (calmB es ps) (clashB (nthE es q.1) (nthE es q.2)) = true := h
    cases e : clashB (nthE es q.1) (nthE es q.2) with
    | false => rw [e] at h; cases h
    | true =>
      rw [e] at h
      intro p hp
      rcases List.mem_cons.1 hp with rfl | hp
      · exact e
      · exact calmB_el h p hp

theorem clash_silent1 {a b : LogN} (h : a.1 = ([], [])) (h2 : a.2.1 = a.2.2) : clash a b = false := by
  simp only [clash, h, disj_nil, Bool.true_and]
  have d : disj b.1.2 [] = true := by simp [disj]
  rw [d, h2]
  simp only [Bool.true_and, Bool.not_eq_false', List.all_eq_true, Bool.not_eq_true', Bool.and_eq_false_iff, decide_eq_false_iff_not]
  intro id _
  omega
theorem clash_silent2 {a b : LogN} (h : b.1 = ([], [])) : clash a b = false := by
  simp [clash, h, disj]

theorem open_lt {ops : Array Oper} {p : Nat × Nat} (h : p ∈ openPairs ops) : p.1 < p.2 := by
  unfold openPairs at h
  simp only [List.mem_flatMap, List.mem_map, List.mem_filter, List.mem_range] at h
  obtain ⟨j, _, i, ⟨hi, _⟩, rfl⟩ := h
  exact hi

/- the logs are calm -/
theorem calm_of {ops : Array Oper} {call : Nat → List AV → AM AV} {fr fr' : Fr} {h h' : Heap} {n n' : Nat} {lgs : List LogN} (e : runLog call P A f nt ops ops.toList fr h n = some (fr', h', n', lgs))
    (hp : ∀ p ∈ ecPs A f ops, ∀ x y, lgs[p.1]? = some x → lgs[p.2]? = some y → clash x y = false) : calm ops lgs = true := by
  have hs : ∀ j, silentAt A f ops j = true → (lgs.getD j (([], []), 0, 0)).1 = ([], []) ∧ (lgs.getD j (([], []), 0, 0)).2.1 = (lgs.getD j (([], []), 0, 0)).2.2 := by
    intro j hj
    unfold silentAt at hj
    split at hj
    · rename_i o ho
      obtain ⟨m, hm⟩ := silent_log ops.toList e j o (by simpa using ho) hj
      rw [List.getD_eq_getElem?_getD, hm]
      exact ⟨rfl, rfl⟩
    · cases hj
  unfold calm
  rw [List.all_eq_true]
  intro p hm
  rw [Bool.not_eq_true']
  by_cases s1 : silentAt A f ops p.1 = true
  · obtain ⟨a1, a2⟩ := hs _ s1
    exact clash_silent1 a1 a2
  · by_cases s2 : silentAt A f ops p.2 = true
    · exact clash_silent2 (hs _ s2).1
    · have hin : p ∈ ecPs A f ops := by
        unfold ecPs
        exact List.mem_filter.2 ⟨hm, by simp [s1, s2]⟩
      rw [List.getD_eq_getElem?_getD, List.getD_eq_getElem?_getD]
      cases h1 : lgs[p.1]? with
      | none => exact clash_silent1 rfl rfl
      | some x =>
        cases h2 : lgs[p.2]? with
        | none => exact clash_silent2 rfl
        | some y => exact hp p hin x y h1 h2

/- a region -/
theorem reg_ok {ops : Array Oper} {dr : Bool} {i : Nat} {cl : CL} {kk : Nat} {l : List SO} {R : RG} {s : HS} {Kn : RG → HS → RT} {Kx : KX} {fr : Fr} {h : Heap} {n : Nat} (hc : CLok P A cl) (hl : slOs P A f ops ops.toList = some l) (hd : (l.all fun o => dokO nt o.dst) = true)
    (hf : FrR R s fr) (hr : Rel s h n) (e : regC (if dr then ecPs A f ops else []) l cl kk R s Kn Kx = some r) :
    ∃ fr' h' n' lg R' s', (∃ k0, ∀ k, k0 ≤ k → ∀ j, exec (callN P A k) P A f nt j (.region i ops dr) fr h n = some ((.norm, fr'), h', n', lg)) ∧ Nx (unb s) h n lg (unb s') h' n' ∧ FrR R' s' fr' ∧ Kn R' s' = some r := by
  have fin : ∀ {fr' h' n' lgs} {k : Nat} (j : Nat), runLog (callN P A k) P A f nt ops ops.toList fr h n = some (fr', h', n', lgs) → (dr = true → calm ops lgs = true) → exec (callN P A k) P A f nt j (.region i ops dr) fr h n = some ((.norm, fr'), h', n', joinLogs lgs) := by
    intro fr' h' n' lgs k j hk hcalm
    simp only [exec]
    have : (if dr then runDraw (callN P A k) P A f nt ops fr else runOps (callN P A k) P A f nt ops ops.toList fr) h n = some (fr', h', n', joinLogs lgs) := by
      cases dr with
      | false => exact runOps_of_log ops _ _ _ _ hk
      | true =>
        simp only [if_true]
        unfold runDraw
        rw [hk]
        simp only [hcalm rfl, if_true]
    unfold AM.bind
    rw [this]
    simp [AM.pure]
  generalize hps : (if dr then ecPs A f ops else []) = ps at e
  cases ps with
  | nil =>
    replace e : opsC l cl R s Kn = some r := e
    obtain ⟨fr', h', n', lgs, R', s', ⟨k0, hk⟩, nx, hf', e⟩ := ops_ok hc hl hd hf hr e
    refine ⟨fr', h', n', _, R', s', ⟨k0, fun k hle j => fin j (hk k hle) fun hdr => ?_⟩, nx, hf', e⟩
    rw [if_pos hdr] at hps
    exact calm_of (hk k hle) (by rw [hps]; simp)
  | cons p ps =>
    have hdr : dr = true := by cases dr <;> first | rfl | simp at hps
    rw [if_pos hdr] at hps
    replace e : logC l cl R s (fun es R s => Bool.rec (motive := fun _ => RT) none (Kn R s) (calmB es (p :: ps))) = some r := e
    obtain ⟨fr', h', n', lgs, es, R', s', ⟨k0, hk⟩, nx, hes, hf', e⟩ := log_ok hc hl hd hf hr e
    obtain ⟨hcb, e⟩ := br_t e
    refine ⟨fr', h', n', _, R', s', ⟨k0, fun k hle j => fin j (hk k hle) fun _ => calm_of (hk k hle) ?_⟩, nx, hf', e⟩
    intro q hq x y hx hy
    have hlt := open_lt (List.mem_filter.1 (show q ∈ (openPairs ops).filter _ from hq)).1
    exact clash_no (hes.at hx).2 (hes.at hy).2 (hes.lt hlt hx hy) (calmB_el hcb q (by rw [← hps]; exact hq))
end
end Go.Abs
