import Derived.Test.YtmnnmgfjlokmkaaGreatAbsOwn
namespace Go.Abs
inductive Cl where
 | A | B | C | D | E | F | G
def okCl : Cl → Cl → Bool
 | .D, _ | _, .D => false
 | .C, .E | .E, .C | .G, .E => true
 | .E, _ | _, .E => false
 | .F, .F | .G, .G | .F, .G | .G, .F => true
 | .B, _ | _, .B | _, .C => true
 | _, _ => false
def ClLog (S : List Nat) : Cl → LogN → Prop
 | .A, x => ∀ id ∈ x.1.2, id ∉ S
 | .B, x => x.1.2 = [] ∧ (∀ id ∈ x.1.1, id ∈ S) ∧ x.2.2 = x.2.1
 | .C, x => x.1 = ([], [])
 | .D, _ => True
 | .E, x => ∀ id ∈ x.1.1 ++ x.1.2, id ∈ S
 | .F, x => x.1.2 = [] ∧ x.2.2 = x.2.1
 | .G, x => x.1.2 = [] ∧ x.2.2 = x.2.1 ∧ ∀ id ∈ x.1.1, id ∉ S
section
variable {P : Program} {A : Ann} {f nt : Nat}
def OpsX (P : Program) (A : Ann) (f nt : Nat) (S : List Nat) (cls : List Cl) (ops : Array Oper) (l : List Oper) (fr : Fr) (h : Heap) (Q : Fr → Heap → Prop) : Prop :=
 ∀ n, Fresh h n → ∃ k fr' h' n' lgs, runLog (callN P A k) P A f nt ops l fr h n = some (fr', h', n', lgs) ∧
  (∀ (j : Nat) (x : LogN), lgs[j]? = some x → n ≤ x.2.1 ∧ ∃ c, cls[j]? = some c ∧ ClLog S c x) ∧ Q fr' h'
theorem clash_ok {S : List Nat} {n : Nat} (hS : ∀ id ∈ S, id < n) {a b : Cl} {x y : LogN} (hx : ClLog S a x) (hy : ClLog S b y) (n1 : n ≤ x.2.1) (ok : okCl a b = true) : clash x y = false := by
 have dj : ∀ {u v : List Nat}, (∀ id ∈ u, id ∉ v) → disj u v = true := fun {u v} h => by
  unfold disj
  rw [List.all_eq_true]
  intro id hid
  simpa using h id hid
 have key : disj x.1.2 y.1.1 = true ∧ disj x.1.2 y.1.2 = true ∧ disj y.1.2 x.1.1 = true ∧ (∀ id ∈ y.1.1 ++ y.1.2, ¬(x.2.1 ≤ id ∧ id < x.2.2)) := by
  cases a with
  | D => cases b <;> cases ok
  | E =>
   cases b with
   | C =>
    have e1 : y.1.1 = [] := congrArg Prod.fst hy
    have e2 : y.1.2 = [] := congrArg Prod.snd hy
    refine ⟨by rw [e1]; exact dj fun _ _ => by simp, by rw [e2]; exact dj fun _ _ => by simp, by rw [e2]; rfl, fun id hid => ?_⟩
    rw [e1, e2] at hid
    cases hid
   | A | B | D | E | F | G => cases ok
  | F =>
   obtain ⟨h1, h3⟩ := hx
   refine ⟨by rw [h1]; rfl, by rw [h1]; rfl, ?_, fun id _ => by omega⟩
   cases b with
   | B => rw [hy.1]; rfl
   | F => rw [hy.1]; rfl
   | G => rw [hy.1]; rfl
   | C => rw [show y.1.2 = [] from congrArg Prod.snd hy]; rfl
   | A | D | E => cases ok
  | G =>
   obtain ⟨h1, h3, h4⟩ := hx
   refine ⟨by rw [h1]; rfl, by rw [h1]; rfl, ?_, fun id _ => by omega⟩
   cases b with
   | B => rw [hy.1]; rfl
   | F => rw [hy.1]; rfl
   | G => rw [hy.1]; rfl
   | C => rw [show y.1.2 = [] from congrArg Prod.snd hy]; rfl
   | E => exact dj fun id hi hc => h4 id hc (hy id (List.mem_append_right _ hi))
   | A | D => cases ok
  | B =>
   obtain ⟨h1, h2, h3⟩ := hx
   refine ⟨by rw [h1]; rfl, by rw [h1]; rfl, ?_, fun id _ => by omega⟩
   cases b with
   | B => rw [hy.1]; rfl
   | A => exact dj fun id hid hc => hy id hid (h2 id hc)
   | C => rw [show y.1.2 = [] from congrArg Prod.snd hy]; rfl
   | F => rw [hy.1]; rfl
   | G => rw [hy.1]; rfl
   | D | E => cases ok
  | A | C =>
   cases b with
   | B =>
    obtain ⟨h1, h2, h3⟩ := hy
    have hw : ∀ id ∈ x.1.2, id ∉ S := by
     first
     | exact hx
     | (rw [show x.1.2 = [] from congrArg Prod.snd hx]; exact fun _ h => by cases h)
    refine ⟨dj fun id hid hc => hw id hid (h2 id hc), by rw [h1]; exact dj fun _ _ => by simp, by rw [h1]; rfl, fun id hid => ?_⟩
    rw [h1, List.append_nil] at hid
    have := hS id (h2 id hid)
    omega
   | A => cases ok
   | D => cases ok
   | F => cases ok
   | G => cases ok
   | E =>
    first
    | (cases ok; done)
    | (have e1 : x.1.1 = [] := congrArg Prod.fst hx
       have e2 : x.1.2 = [] := congrArg Prod.snd hx
       refine ⟨by rw [e2]; rfl, by rw [e2]; rfl, by rw [e1]; exact dj fun _ _ => by simp, fun id hid => ?_⟩
       have := hS id (hy id hid)
       omega)
   | C =>
    have e1 : y.1.1 = [] := congrArg Prod.fst hy
    have e2 : y.1.2 = [] := congrArg Prod.snd hy
    refine ⟨by rw [e1]; exact dj fun _ _ => by simp, by rw [e2]; exact dj fun _ _ => by simp, by rw [e2]; rfl, fun id hid => ?_⟩
    rw [e1, e2] at hid
    cases hid
 obtain ⟨k1, k2, k3, k4⟩ := key
 unfold clash
 rw [k1, k2, k3]
 simp only [Bool.true_and, Bool.not_eq_false', List.all_eq_true, Bool.not_eq_true', Bool.and_eq_false_iff, decide_eq_false_iff_not]
 intro id hid
 have := k4 id hid
 omega
variable {fr : Fr} {h : Heap} {Q : AX → Fr → Heap → Prop}
theorem go_regionX {i : Nat} {ops : Array Oper} {dr : Bool} {S : List Nat} {cls : List Cl} (hS : ∀ id ∈ S, h id ≠ none) (hps : (openN A f ops).all (fun p => match cls[p.1]?, cls[p.2]? with | some a, some b => okCl a b | _, _ => false) = true)
  (H : OpsX P A f nt S cls ops ops.toList fr h (rq Q)) : Runs P A f nt (.region i ops dr) fr h Q := by
 intro n hn
 obtain ⟨k, fr1, h1, n1, lgs, e, hd, q⟩ := H n hn
 have ev : (if dr then runDraw (callN P A k) P A f nt ops fr else runOps (callN P A k) P A f nt ops ops.toList fr) h n = some (fr1, h1, n1, joinLogs lgs) := by
  cases dr with
  | false => exact runOps_of_log ops _ _ _ _ e
  | true =>
   simp only [if_true]
   unfold runDraw
   rw [e]
   simp only
   have hlive : ∀ id ∈ S, id < n := fun id hid => by
    rcases Nat.lt_or_ge id n with hlt | hge
    ·exact hlt
    ·exact absurd (hn id hge) (hS id hid)
   have hs : ∀ j, silentAt A f ops j = true → (lgs.getD j (([], []), 0, 0)).1 = ([], []) ∧ (lgs.getD j (([], []), 0, 0)).2.1 = (lgs.getD j (([], []), 0, 0)).2.2 := by
    intro j hj
    unfold silentAt at hj
    split at hj
    ·rename_i o ho
     obtain ⟨m, hm⟩ := silent_log ops.toList e j o (by simpa using ho) hj
     rw [List.getD_eq_getElem?_getD, hm]
     exact ⟨rfl, rfl⟩
    ·cases hj
   have : calm ops lgs = true := by
    unfold calm
    rw [List.all_eq_true]
    intro p hp
    by_cases s1 : silentAt A f ops p.1 = true
    ·obtain ⟨a1, a2⟩ := hs p.1 s1
     simp only [clash, a1, disj_nil, Bool.true_and, Bool.not_not, Bool.and_eq_true, List.all_eq_true, Bool.not_eq_true', Bool.and_eq_false_iff, decide_eq_false_iff_not]
     refine ⟨by simp [disj], fun id _ => ?_⟩
     rw [a2]
     omega
    ·by_cases s2 : silentAt A f ops p.2 = true
     ·obtain ⟨a1, a2⟩ := hs p.2 s2
      simp only [clash, a1]
      simp [disj]
     ·have hpp := List.all_eq_true.1 hps p (List.mem_filter.2 ⟨hp, by simp [s1, s2]⟩)
      split at hpp
      ·rename_i a b ha hb
       rw [Bool.not_eq_true']
       have ll : ∀ j c, cls[j]? = some c → lgs[j]? = none → ClLog S .C (lgs.getD j (([], []), 0, 0)) := fun j c _ hj => by rw [List.getD_eq_getElem?_getD, hj]; rfl
       cases e1 : lgs[p.1]? with
       | none =>
        have : lgs.getD p.1 (([], []), 0, 0) = (([], []), 0, 0) := by rw [List.getD_eq_getElem?_getD, e1]; rfl
        rw [this]
        simp only [clash, disj_nil, Bool.true_and]
        simp [disj]
       | some x =>
        obtain ⟨g1, c1, g2, g3⟩ := hd p.1 x e1
        rw [ha] at g2
        cases g2
        have ex : lgs.getD p.1 (([], []), 0, 0) = x := by rw [List.getD_eq_getElem?_getD, e1]; rfl
        rw [ex]
        cases e2 : lgs[p.2]? with
        | none =>
         have : lgs.getD p.2 (([], []), 0, 0) = (([], []), 0, 0) := by rw [List.getD_eq_getElem?_getD, e2]; rfl
         rw [this]
         simp only [clash]
         simp [disj]
        | some y =>
         obtain ⟨k1, c2, k2, k3⟩ := hd p.2 y e2
         rw [hb] at k2
         cases k2
         have ey : lgs.getD p.2 (([], []), 0, 0) = y := by rw [List.getD_eq_getElem?_getD, e2]; rfl
         rw [ey]
         exact clash_ok hlive g3 k3 g1 hpp
      ·cases hpp
   rw [this]
   rfl
 refine ⟨k, .norm, fr1, h1, n1, ((joinLogs lgs).1 ++ [], (joinLogs lgs).2 ++ []), ?_, q⟩
 simp only [exec]
 unfold AM.bind
 rw [ev]
 rfl
end
section
variable {P : Program} {A : Ann} {f nt : Nat} {E : Env} {bx : List Nat} {h : Heap} {Q : AX → Env → List Nat → Heap → Prop} {S : List Nat} {cls : List Cl}
def SOpsX (P : Program) (A : Ann) (f nt : Nat) (S : List Nat) (cls : List Cl) (l : List SO) (E : Env) (bx : List Nat) (h : Heap) (Q : AX → Env → List Nat → Heap → Prop) : Prop :=
 ∀ ops l0 rg, slOs P A f ops l0 = some l → Sat (lk E) rg → (∀ id ∈ S, h id ≠ none) → OpsX P A f nt S cls ops l0 ⟨rg, bx⟩ h (rq (cq Q))
theorem s_regX {ps : List (Nat × Nat)} {l : List SO} (S : List Nat) (cls : List Cl) (hS : ∀ id ∈ S, h id ≠ none) (hps : ps.all (fun p => match cls[p.1]?, cls[p.2]? with | some a, some b => okCl a b | _, _ => false) = true) (H : SOpsX P A f nt S cls l E bx h Q) : SRun P A f nt (.reg ps l) E bx h Q := by
 intro c0 rg hc hs
 obtain ⟨i, ops, dr, rfl, h1, rfl⟩ := slC_inv hc
 cases dr with
 | true => exact go_regionX hS hps (H ops ops.toList rg h1 hs hS)
 | false =>
  intro n hn
  obtain ⟨k, fr1, h1, n1, lgs, e, hd, q⟩ := H ops ops.toList rg h1 hs hS n hn
  refine ⟨k, .norm, fr1, h1, n1, ((joinLogs lgs).1 ++ [], (joinLogs lgs).2 ++ []), ?_, q⟩
  simp only [exec]
  unfold AM.bind
  simp only [Bool.false_eq_true, if_false]
  rw [runOps_of_log ops _ _ _ _ e]
  rfl
theorem x_nil (H : Q .norm E bx h) : SOpsX P A f nt S [] [] E bx h Q := by
 intro ops l0 rg hl hs hS
 cases l0 with
 | nil => exact fun n _ => ⟨0, ⟨rg, bx⟩, h, n, [], rfl, by simp, E, hs, H⟩
 | cons o r =>
  simp only [slOs] at hl
  split at hl <;> simp at hl
def joinS (S : List Nat) (h h1 : Heap) : Heap := fun id => if S.contains id = true then h id else h1 id
theorem joinS_kill {S : List Nat} {h : Heap} : joinS S h (killL S h) = h := by
 funext id
 unfold joinS killL
 split <;> rfl
theorem x_A {o : SO} {l : List SO} {R : Env → List Nat → Heap → Prop} (H1 : SOps P A f nt (killL S h) 0 [o] E bx (killL S h) fun x E' bx' h1 => x = .norm ∧ R E' bx' h1)
  (H2 : ∀ E' bx' h1, R E' bx' h1 → (∀ id ∈ S, h1 id = none) → SOpsX P A f nt S cls l E' bx' (joinS S h h1) Q) : SOpsX P A f nt S (.A :: cls) (o :: l) E bx h Q := by
 intro ops l0 rg hl hs hS
 obtain ⟨o0, r0, rfl, g1, g2⟩ := slOs_cons hl
 intro n hn
 have hlt : ∀ id ∈ S, id < n := fun id hid => by
  rcases Nat.lt_or_ge id n with hlt | hge
  ·exact hlt
  ·exact absurd (hn id hge) (hS id hid)
 have hfr : Fresh (killL S h) n := fun id hid => by
  unfold killL
  split
  ·rfl
  ·exact hn id hid
 obtain ⟨k1, fr1, h1, n1, lgs, e, _, E', hs', ⟨_, hR⟩⟩ := H1 ops [o0] rg (by simp only [slOs, g1]) hs n hfr
 simp only [runLog] at e
 split at e
 ·cases e
 ·rename_i fr2 h2 n2 lg e2
  simp only [Option.some.injEq, Prod.mk.injEq] at e
  obtain ⟨rfl, rfl, rfl, _⟩ := e
  obtain ⟨st, loc⟩ := local_stepA P A f nt (fun g vs => local_callN P A k1 g vs) ops o0 ⟨rg, bx⟩ _ n _ _ _ _ hfr e2
  have hout : ∀ id, id ∈ lg.1 ∨ id ∈ lg.2 → id ∉ S := by
   intro id hid hc
   refine st.live id hid (hlt id hc) ?_
   unfold killL
   rw [if_pos (by simpa using hc)]
  have key := loc h (fun id hid => by
   have : id ∉ S := by
    rcases hid with hid | hid | hid
    ·exact hout id (.inl hid)
    ·exact hout id (.inr hid)
    ·intro hc
     have := hlt id hc
     omega
   unfold killL
   rw [if_neg (by simpa using this)])
  have hov : over h h2 n n2 lg.2 = joinS S h h2 := by
   funext id
   unfold over joinS
   by_cases hc : id ∈ S
   ·have c1 : id ∉ lg.2 := fun hid => hout id (.inr hid) hc
    have := hlt id hc
    rw [if_neg (by intro hx; rcases hx with hx | hx; exact c1 hx; omega), if_pos (by simpa using hc)]
   ·rw [if_neg (c := S.contains id = true) (by simpa using hc)]
    split
    ·rfl
    ·rename_i hx
     simp only [not_or] at hx
     rw [st.same id hx.1 hx.2]
     unfold killL
     rw [if_neg (by simpa using hc)]
  rw [hov] at key
  have st2 := (local_stepA P A f nt (fun g vs => local_callN P A k1 g vs) ops o0 ⟨rg, bx⟩ _ n _ _ _ _ hn key).1
  have hS2 : ∀ id ∈ S, joinS S h h2 id ≠ none := fun id hid => by
   unfold joinS
   rw [if_pos (by simpa using hid)]
   exact hS id hid
  have hS3 : ∀ id ∈ S, h2 id = none := fun id hid => by
   rw [st.same id (fun hx => hout id (.inr hx) hid) (by have := hlt id hid; omega)]
   unfold killL
   rw [if_pos (by simpa using hid)]
  obtain ⟨k2, fr3, h3, n3, lgs3, e3, hd, qq⟩ := H2 E' fr2.boxes h2 hR hS3 ops r0 fr2.regs g2 hs' hS2 n2 st2.fresh
  refine ⟨max k1 k2, fr3, h3, n3, (lg, n, n2) :: lgs3, ?_, ?_, qq⟩
  ·unfold runLog
   rw [le_stepA (fun g vs => le_callN (Nat.le_max_left k1 k2) g vs) ops o0 ⟨rg, bx⟩ _ _ _ key]
   simp only
   rw [le_runLog (fun g vs => le_callN (Nat.le_max_right k1 k2) g vs) ops r0 _ _ _ _ e3]
  ·intro j x hx
   cases j with
   | zero =>
    simp only [List.getElem?_cons_zero, Option.some.injEq] at hx
    subst hx
    exact ⟨Nat.le_refl _, .A, rfl, fun id hid => hout id (.inr hid)⟩
   | succ j =>
    obtain ⟨a, c, b1, b2⟩ := hd j x (by simpa using hx)
    exact ⟨Nat.le_trans st2.le a, c, by simpa using b1, b2⟩
theorem x_D {o : SO} {l : List SO} {R : Env → List Nat → Heap → Prop} (H1 : SOps P A f nt h 0 [o] E bx h fun x E' bx' h1 => x = .norm ∧ R E' bx' h1)
  (H2 : ∀ E' bx' h1, R E' bx' h1 → (∀ id ∈ S, h1 id ≠ none) ∧ SOpsX P A f nt S cls l E' bx' h1 Q) : SOpsX P A f nt S (.D :: cls) (o :: l) E bx h Q := by
 intro ops l0 rg hl hs hS
 obtain ⟨o0, r0, rfl, g1, g2⟩ := slOs_cons hl
 intro n hn
 obtain ⟨k1, fr1, h1, n1, lgs, e, _, E', hs', ⟨_, hR⟩⟩ := H1 ops [o0] rg (by simp only [slOs, g1]) hs n hn
 simp only [runLog] at e
 split at e
 ·cases e
 ·rename_i fr2 h2 n2 lg e2
  simp only [Option.some.injEq, Prod.mk.injEq] at e
  obtain ⟨rfl, rfl, rfl, _⟩ := e
  have st := (local_stepA P A f nt (fun g vs => local_callN P A k1 g vs) ops o0 ⟨rg, bx⟩ _ n _ _ _ _ hn e2).1
  obtain ⟨hS2, H3⟩ := H2 E' fr2.boxes h2 hR
  obtain ⟨k2, fr3, h3, n3, lgs3, e3, hd, qq⟩ := H3 ops r0 fr2.regs g2 hs' hS2 n2 st.fresh
  refine ⟨max k1 k2, fr3, h3, n3, (lg, n, n2) :: lgs3, ?_, ?_, qq⟩
  ·unfold runLog
   rw [le_stepA (fun g vs => le_callN (Nat.le_max_left k1 k2) g vs) ops o0 ⟨rg, bx⟩ _ _ _ e2]
   simp only
   rw [le_runLog (fun g vs => le_callN (Nat.le_max_right k1 k2) g vs) ops r0 _ _ _ _ e3]
  ·intro j x hx
   cases j with
   | zero =>
    simp only [List.getElem?_cons_zero, Option.some.injEq] at hx
    subst hx
    exact ⟨Nat.le_refl _, .D, rfl, trivial⟩
   | succ j =>
    obtain ⟨a, c, b1, b2⟩ := hd j x (by simpa using hx)
    exact ⟨Nat.le_trans st.le a, c, by simpa using b1, b2⟩
theorem x_v {d : Nat} {k : SK} {r : List SO} {p : Prop} {v : AV} (hlt : (decide (d < nt)) = true) (hv : sv (lk E) k = some (p, v)) (hp : p) (H : SOpsX P A f nt S cls r ((d, v) :: E) bx h Q) : SOpsX P A f nt S (.A :: cls) (⟨some d, none, k⟩ :: r) E bx h Q :=
 x_A (R := fun E' bx' h1 => E' = (d, v) :: E ∧ bx' = bx ∧ h1 = killL S h) (o_val hlt hv hp (o_nil ⟨rfl, rfl, rfl, rfl⟩)) (by
  rintro _ _ _ ⟨rfl, rfl, rfl⟩ _
  rw [joinS_kill]
  exact H)
theorem OSl.kill {g gg h : Heap} {s n : Nat} {v : AV} {cs : List AV} {S : List Nat} (H : OSl gg s v cs n h) (hx : Ext g gg) (hS : ∀ id ∈ S, gg id ≠ none ∧ g id = none) : OSl g s v cs n (killL S h) := by
 refine ⟨(hx.trans H.ext).kill fun i hi => (hS i hi).2, ?_⟩
 rcases H.own with h0 | ⟨i, e, h1, h2, h3⟩
 ·exact .inl h0
 ·have hi : i ∉ S := fun hi => (hS i hi).1 h1
  refine .inr ⟨i, e, ?_, ?_, h3⟩
  ·cases hh : g i with
   | none => rfl
   | some o => rw [hx i o hh] at h1; cases h1
  ·unfold killL
   rw [if_neg (by simpa using hi)]
   exact h2
theorem OSl.join {g gg h h1 : Heap} {s n : Nat} {v : AV} {cs : List AV} {S : List Nat} (H : OSl g s v cs n h1) (hx : Ext gg h) (h0 : ∀ id ∈ S, h1 id = none) (hg : ∀ id, id ∉ S → gg id = g id) : OSl gg s v cs n (joinS S h h1) := by
 refine ⟨fun id o e => ?_, ?_⟩
 ·unfold joinS
  split
  ·exact hx id o e
  ·rename_i hs
   rw [hg id (by simpa using hs)] at e
   exact H.ext id o e
 ·rcases H.own with h0 | ⟨i, e, g1, g2, g3⟩
  ·exact .inl h0
  ·have hi : i ∉ S := fun hi => by rw [h0 i hi] at g2; cases g2
   refine .inr ⟨i, e, by rw [hg i hi]; exact g1, ?_, g3⟩
   unfold joinS
   rw [if_neg (by simpa using hi)]
   exact g2
theorem OSl.up {g h h' : Heap} {s n : Nat} {v : AV} {cs : List AV} (H : OSl g s v cs n h) (hx : Ext h h') : OSl g s v cs n h' := by
 refine ⟨H.ext.trans hx, ?_⟩
 rcases H.own with h0 | ⟨i, e, g1, g2, g3⟩
 ·exact .inl h0
 ·exact .inr ⟨i, e, g1, hx _ _ g2, g3⟩
theorem join_upd {S : List Nat} {h : Heap} {i : Nat} {o : AObj} (hi : i ∉ S) : joinS S h (upd (killL S h) i (some o)) = upd h i (some o) := by
 funext id
 unfold joinS upd killL
 by_cases e : id = i
 ·subst e
  rw [if_neg (by simpa using hi)]
  simp
 ·simp only [if_neg e]
  split <;> rfl
theorem kill_out {S : List Nat} {h : Heap} {i : Nat} (hi : i ∉ S) : killL S h i = h i := by
 unfold killL
 rw [if_neg (by simpa using hi)]
theorem Ext.killed {S : List Nat} {h h' : Heap} (hx : Ext h h') : Ext (killL S h) (killL S h') := by
 intro id o e
 unfold killL at e ⊢
 split at e
 ·cases e
 ·rename_i hs
  rw [if_neg hs]
  exact hx id o e
theorem x_ld {d : Nat} {x : SX} {r : List SO} {id off : Nat} {cs : List AV} {v : AV} (hlt : (decide (d < nt)) = true) (hx : ev (lk E) x = some (.ptr id off)) (hid : h id = some (.cells cs)) (hm : id ∈ S) (hv : cs[off]? = some v)
  (H : SOpsX P A f nt S cls r ((d, v) :: E) bx h Q) : SOpsX P A f nt S (.B :: cls) (⟨some d, none, .ld x none⟩ :: r) E bx h Q := by
 intro ops l0 rg hl hs hS
 obtain ⟨o0, r0, rfl, h1, h2⟩ := slOs_cons hl
 obtain ⟨e1, e2, e3⟩ := slO_some h1
 obtain ⟨t, x0, hop, q1, q2, hro⟩ := load_inv e2
 have hg : o0.guard = none := by
  rcases e3 with ⟨e, _⟩ | ⟨_, _, _, _, e, _⟩
  ·exact e
  ·cases e
 have hsl : sliceL cs off 1 = some [v] := by
  have hlt := (List.getElem?_eq_some_iff.1 hv).1
  unfold sliceL
  rw [if_pos (by omega)]
  congr 1
  rw [List.drop_eq_getElem_cons hlt, (List.getElem?_eq_some_iff.1 hv).2]
  rfl
 rcases cellsN_some q2 with ⟨m, e, _, _⟩ | ⟨_, g1, m, g2⟩
 ·cases e
 intro n hn
 have hpl : putA A f nt o0 v ⟨rg, bx⟩ = some ⟨upd rg d v, bx⟩ := put_plain e1.symm (by simpa using hlt) (fun hb => by rw [hop] at hb; simp [isBox] at hb)
 obtain ⟨k, fr3, h3, n3, lgs3, e4, hd, qq⟩ := H ops r0 _ h2 (hs.put d v) hS n hn
 have hst : stepA (callN P A k) P A f nt ops o0 ⟨rg, bx⟩ h n = some (⟨upd rg d v, bx⟩, h, n, ([id], [])) := by
  unfold stepA
  have hw : wantedA ops o0 rg = some true := by unfold wantedA; rw [hg]
  simp only [hw]
  unfold opV
  rw [hop]
  simp only [hro, Bool.false_eq_true, if_false, opM, ev_sound hs q1 hx, loadT, cellsAt, g1, g2]
  simp only [AM.bind, AM.lift, AM.pure, AM.get, hid, hsl, shapeOf, Bool.false_eq_true, if_false]
  rw [hpl]
  rfl
 refine ⟨k, fr3, h3, n3, (([id], []), n, n) :: lgs3, ?_, ?_, qq⟩
 ·unfold runLog
  rw [hst]
  simp only
  rw [e4]
 ·intro j y hy
  cases j with
  | zero =>
   simp only [List.getElem?_cons_zero, Option.some.injEq] at hy
   subst hy
   exact ⟨Nat.le_refl _, .B, rfl, rfl, by simpa using hm, rfl⟩
  | succ j =>
   obtain ⟨a, c, b1, b2⟩ := hd j y (by simpa using hy)
   exact ⟨a, c, by simpa using b1, b2⟩
theorem opsX_h {ops : Array Oper} {o : Oper} {r : List Oper} {fr : Fr} {c : Cl} {R : Fr → Heap → Prop} (hw : wantedA ops o fr.regs = some true)
  (hv : ∀ n, Fresh h n → ∃ k v h' n' lg fr1, opV (callN P A k) P A f o fr.regs h n = some (v, h', n', lg) ∧ ClLog S c (lg, n, n') ∧ putA A f nt o v fr = some fr1 ∧ OpsX P A f nt S cls ops r fr1 h' R) : OpsX P A f nt S (c :: cls) ops (o :: r) fr h R := by
 intro n hn
 obtain ⟨k1, v, h1, n1, lg, fr1, e1, hc, hp, H⟩ := hv n hn
 have st := (local_opV P A f (fun g vs => local_callN P A k1 g vs) o fr.regs h n _ _ _ _ hn e1).1
 obtain ⟨k2, fr2, h2, n2, lgs, e2, hd, qq⟩ := H n1 st.fresh
 have hs : stepA (callN P A (max k1 k2)) P A f nt ops o fr h n = some (fr1, h1, n1, (lg.1 ++ [], lg.2 ++ [])) := by
  unfold stepA
  rw [hw]
  simp only
  unfold AM.bind
  rw [le_op (Nat.le_max_left k1 k2) o fr.regs _ _ _ e1]
  simp only
  rw [hp]
  simp [AM.lift, AM.pure]
 refine ⟨max k1 k2, fr2, h2, n2, ((lg.1 ++ [], lg.2 ++ []), n, n1) :: lgs, ?_, ?_, qq⟩
 ·unfold runLog
  rw [hs]
  simp only
  rw [le_runLog (fun g vs => le_callN (Nat.le_max_right k1 k2) g vs) ops r _ _ _ _ e2]
 ·intro j x hx
  cases j with
  | zero =>
   simp only [List.getElem?_cons_zero, Option.some.injEq] at hx
   subst hx
   rw [List.append_nil, List.append_nil]
   exact ⟨Nat.le_refl _, c, rfl, hc⟩
  | succ j =>
   obtain ⟨a, c, b1, b2⟩ := hd j x (by simpa using hx)
   exact ⟨Nat.le_trans st.le a, c, by simpa using b1, b2⟩
theorem x_vC {d : Nat} {k : SK} {r : List SO} {p : Prop} {v : AV} (hk : heapy k = false) (hlt : (decide (d < nt)) = true) (hv : sv (lk E) k = some (p, v)) (hp : p) (H : SOpsX P A f nt S cls r ((d, v) :: E) bx h Q) : SOpsX P A f nt S (.C :: cls) (⟨some d, none, k⟩ :: r) E bx h Q := by
 intro ops l0 rg hl hs hS
 obtain ⟨o0, r0, rfl, h1, h2⟩ := slOs_cons hl
 obtain ⟨e1, e2, e3⟩ := slO_some h1
 have hg : o0.guard = none := by
  rcases e3 with ⟨e, _⟩ | ⟨_, _, _, _, e, _⟩
  ·exact e
  ·cases e
 have hsl := getD_raw e2 hk
 refine opsX_h (by unfold wantedA; rw [hg]) fun n hn => ?_
 obtain ⟨k1, n', rd, hrd, e⟩ := sv_rd (h0 := fun _ => none) (q := 1) hsl hs hv hp (h := h) n hn
 have : rd = [] := List.eq_nil_iff_forall_not_mem.2 fun id hid => hrd (by omega) id hid rfl
 subst this
 refine ⟨k1, v, h, n', _, _, e, rfl, put_plain e1.symm (by simpa using hlt) (fun hb => ?_), H ops r0 _ h2 (hs.put d v) hS⟩
 exact sv_box hsl hv hb
theorem callN_log {k g : Nat} {vs : List AV} {h h' : Heap} {n n' : Nat} {v : AV} {lg : Log} (e : callN P A k g vs h n = some (v, h', n', lg)) : ∀ id, id ∈ lg.1 ∨ id ∈ lg.2 → id < n := by
 intro id hid
 cases k with
 | zero => cases e
 | succ k =>
  unfold callN at e
  split at e
  ·unfold alone at e
   split at e
   ·cases e
   ·split at e
    ·simp only [Option.some.injEq, Prod.mk.injEq] at e
     rw [← e.2.2.2] at hid
     simp at hid
    ·cases e
  ·unfold callO at e
   split at e
   ·cases e
   ·simp only [Option.some.injEq] at e
    unfold finish at e
    simp only at e
    split at e
    ·simp only [Prod.mk.injEq] at e
     rw [← e.2.2.2] at hid
     simp only [List.mem_filter, decide_eq_true_eq, List.not_mem_nil, or_false] at hid
     exact hid.2
    ·simp only [Prod.mk.injEq] at e
     rw [← e.2.2.2] at hid
     simp only [List.mem_filter, decide_eq_true_eq] at hid
     rcases hid with hid | hid <;> exact hid.2
def plus (h h1 : Heap) : Heap := fun id => match h id with
 | some o => some o
 | none => h1 id
theorem plus_ext {h h1 : Heap} : Ext h (plus h h1) := fun id o e => by unfold plus; rw [e]
theorem x_callC {d : Nat} {x : SX} {args : List SX} {r : List SO} {g : Nat} {first cap vs : List AV} {Q1 : AV → Heap → Prop} (hlt : (decide (d < nt)) = true) (hx : ev (lk E) x = some (.fn g first cap)) (ha : evS (lk E) args = some vs)
  (hc : HCallC P A g (first ++ vs ++ cap) (fun _ => none) Q1) (H : ∀ v h1, Q1 v h1 → (∀ id, h1 id ≠ none → h id = none) → SOpsX P A f nt S cls r ((d, v) :: E) bx (plus h h1) Q) : SOpsX P A f nt S (.C :: cls) (⟨some d, none, .call x args⟩ :: r) E bx h Q := by
 intro ops l0 rg hl hs hS
 obtain ⟨o0, r0, rfl, h1, h2⟩ := slOs_cons hl
 obtain ⟨e1, e2, e3⟩ := slO_some h1
 have hg : o0.guard = none := by
  rcases e3 with ⟨e, _⟩ | ⟨_, _, _, _, e, _⟩
  ·exact e
  ·cases e
 obtain ⟨x0, a0, ts, ho, hx0, ha0⟩ := call_inv (getD_raw e2 rfl)
 refine opsX_h (by unfold wantedA; rw [hg]) fun n hn => ?_
 obtain ⟨k, v, h1, n', lg, e, q1⟩ := hc n (fun _ _ => rfl)
 obtain ⟨st, loc⟩ := local_callN P A k g (first ++ vs ++ cap) _ n _ _ _ _ (fun _ _ => rfl) e
 have hlog : lg = ([], []) := by
  have key : ∀ id, id ∈ lg.1 ∨ id ∈ lg.2 → False := by
   intro id hid
   rcases Nat.lt_or_ge id n with hl | hl
   ·exact st.live id hid hl rfl
   ·have := callN_log e id hid
    omega
  obtain ⟨a, b⟩ := lg
  have ea : a = [] := List.eq_nil_iff_forall_not_mem.2 fun id hid => key id (.inl hid)
  have eb : b = [] := List.eq_nil_iff_forall_not_mem.2 fun id hid => key id (.inr hid)
  rw [ea, eb]
 subst hlog
 have hnew : ∀ id, h1 id ≠ none → n ≤ id ∧ id < n' := by
  intro id hid
  refine Decidable.byContradiction fun hc => hid ?_
  exact st.same id (by simp) hc
 have key := loc h (fun id hid => by
  rcases hid with hid | hid | hid
  ·cases hid
  ·cases hid
  ·exact hn id hid.1)
 have hov : over h h1 n n' [] = plus h h1 := by
  funext id
  unfold over plus
  by_cases hc : n ≤ id ∧ id < n'
  ·rw [if_pos (.inr hc), hn id hc.1]
  ·rw [if_neg (by simpa using hc)]
   cases hh : h id with
   | some o => rfl
   | none =>
    cases hh1 : h1 id with
    | none => rfl
    | some o => exact absurd (hnew id (by rw [hh1]; simp)) hc
 rw [hov] at key
 refine ⟨k, v, plus h h1, n', ([], []), _, ?_, (show _ = _ from rfl), put_plain e1.symm (by simpa using hlt) (fun hb => by rw [ho] at hb; simp [isBox] at hb), H v h1 q1 (fun id hid => hn id (hnew id hid).1) ops r0 _ h2 (hs.put d v) fun id hid => ?_⟩
 ·unfold opV
  rw [ho]
  simp only [ev_sound hs hx0 hx, slXs_sound hs ha0 ha]
  unfold AM.bind
  simp only [AM.lift, AM.pure]
  rw [key]
  rfl
 ·have := hS id hid
  cases hh : h id with
  | none => exact absurd hh this
  | some o => rw [plus_ext id o hh]; simp
end
section
variable {P : Program} {A : Ann} {f nt : Nat} {E : Env} {bx : List Nat} {h : Heap} {Q : AX → Env → List Nat → Heap → Prop}
def slqB {σ : Type} (env : σ → Env) (bxs : σ → List Nat) (H : σ → Heap → Prop) (m : σ → Nat) (s : σ) (Q : AX → Env → List Nat → Heap → Prop) : AX → Env → List Nat → Heap → Prop := fun x E bx h => match x with
 | .norm => ∃ s', m s' < m s ∧ Sub (env s') E ∧ bx = bxs s' ∧ H s' h
 | e => Q e E bx h
theorem s_loopB {b : SC} {σ : Type} (env : σ → Env) (bxs : σ → List Nat) (HI : σ → Heap → Prop) (m : σ → Nat) (s0 : σ) (h0 : Sub (env s0) E) (hb : bx = bxs s0) (hH : HI s0 h) (H : ∀ s h, HI s h → SRun P A f nt b (env s) (bxs s) h (slqB env bxs HI m s Q)) : SRun P A f nt (.loop b) E bx h Q := by
 intro c0 rg hc hs
 obtain ⟨b0, rfl, h1⟩ := slC_inv hc
 refine go_loop (fun s fr h => Sat (lk (env s)) fr.regs ∧ fr.boxes = bxs s ∧ HI s h) m s0 ⟨fun t v e => hs t v (h0 t v e), hb, hH⟩ ?_
 rintro s ⟨rg', bx'⟩ h' ⟨hs', hbx, hI⟩
 simp only at hs' hbx
 subst hbx
 refine (H s h' hI b0 rg' h1 hs').mono ?_
 rintro x fr h2 ⟨E2, hs2, hq⟩
 cases x with
 | norm =>
  obtain ⟨s', hm, hsub, hbx, hH'⟩ := hq
  exact ⟨s', hm, fun t v e => hs2 t v (hsub t v e), hbx, hH'⟩
 | exit i => exact ⟨E2, hs2, hq⟩
 | ret => exact ⟨E2, hs2, hq⟩
theorem slqB_exit {σ : Type} {env : σ → Env} {bxs : σ → List Nat} {HI : σ → Heap → Prop} {m : σ → Nat} {s : σ} {i : Nat} (H : Q (.exit i) E bx h) : slqB env bxs HI m s Q (.exit i) E bx h := H
theorem slqB_ret {σ : Type} {env : σ → Env} {bxs : σ → List Nat} {HI : σ → Heap → Prop} {m : σ → Nat} {s : σ} (H : Q .ret E bx h) : slqB env bxs HI m s Q .ret E bx h := H
def jqB {σ : Type} (env : σ → Env) (bxs : σ → List Nat) (HI : σ → Heap → Prop) (Q : AX → Env → List Nat → Heap → Prop) : AX → Env → List Nat → Heap → Prop := fun x E bx h => match x with
 | .norm => ∃ s, Sub (env s) E ∧ bx = bxs s ∧ HI s h
 | e => Q e E bx h
theorem s_joinB {a b : SC} {σ : Type} (env : σ → Env) (bxs : σ → List Nat) (HI : σ → Heap → Prop) (H1 : SRun P A f nt a E bx h (jqB env bxs HI Q)) (H2 : ∀ s h', HI s h' → SRun P A f nt b (env s) (bxs s) h' Q) : SRun P A f nt (.seq a b) E bx h Q := by
 apply s_seq
 intro c0 rg hc hs
 refine (H1 c0 rg hc hs).mono ?_
 rintro x ⟨rg', bx'⟩ h' ⟨E', hs', q⟩
 cases x with
 | norm =>
  obtain ⟨s, w1, w2, w3⟩ := q
  refine ⟨E', hs', ?_⟩
  show SRun P A f nt b E' bx' h' Q
  have w2 : bx' = bxs s := w2
  subst w2
  exact srun_sub w1 (H2 s h' w3)
 | exit i => exact ⟨E', hs', q⟩
 | ret => exact ⟨E', hs', q⟩
theorem jqB_exit {σ : Type} {env : σ → Env} {bxs : σ → List Nat} {HI : σ → Heap → Prop} {i : Nat} (H : Q (.exit i) E bx h) : jqB env bxs HI Q (.exit i) E bx h := H
theorem jqB_ret {σ : Type} {env : σ → Env} {bxs : σ → List Nat} {HI : σ → Heap → Prop} (H : Q .ret E bx h) : jqB env bxs HI Q .ret E bx h := H
end
end Go.Abs
