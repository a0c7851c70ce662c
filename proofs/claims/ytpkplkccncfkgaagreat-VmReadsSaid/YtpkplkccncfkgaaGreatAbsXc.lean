/- The evaluator's second form is sound: code, functions, calls. -/
import Derived.Test.YtpkplkccncfkgaaGreatAbsXb
namespace Go.Abs

inductive JE : EJ → EC → Prop
  | hole (c : EC) : JE .hole c
  | skip : JE .skip .skip
  | reg (ps : List (Nat × Nat)) (l : List SO) : JE (.reg ps l) (.reg ps l)
  | seq {a b : EJ} {c d : EC} : JE a c → JE b d → JE (.seq a b) (.seq c d)
  | cond (x : SX) (j : List Nat) {a b : EJ} {c d : EC} : JE a c → JE b d → JE (.cond x j a b) (.cond x c d)
  | block (id : Nat) (j : List Nat) {b : EJ} {c : EC} : JE b c → JE (.block id j b) (.block id c)
  | loop (j : List Nat) {b : EJ} {c : EC} : JE b c → JE (.loop j b) (.loop c)
  | exit (id : Nat) : JE (.exit id) (.exit id)
  | ret : JE .ret .ret

theorem annJ_ok : ∀ {c : EC} {l : List JJ} {e : EJ} {l' : List JJ}, annJ c l = some (e, l') → JE e c
  | .skip, l, e, l', h => by simp only [annJ, Option.some.injEq, Prod.mk.injEq] at h; rw [← h.1]; exact .skip
  | .reg ps o, l, e, l', h => by simp only [annJ, Option.some.injEq, Prod.mk.injEq] at h; rw [← h.1]; exact .reg ps o
  | .exit i, l, e, l', h => by simp only [annJ, Option.some.injEq, Prod.mk.injEq] at h; rw [← h.1]; exact .exit i
  | .ret, l, e, l', h => by simp only [annJ, Option.some.injEq, Prod.mk.injEq] at h; rw [← h.1]; exact .ret
  | .seq a b, l, e, l', h => by
    simp only [annJ] at h
    split at h
    · rename_i a1 l1 h1
      split at h
      · rename_i b1 l2 h2
        simp only [Option.some.injEq, Prod.mk.injEq] at h
        rw [← h.1]
        exact .seq (annJ_ok h1) (annJ_ok h2)
      · cases h
    · cases h
  | .cond x a b, l, e, l', h => by
    simp only [annJ] at h
    split at h
    · split at h
      · rename_i a1 l1 h1
        split at h
        · rename_i b1 l2 h2
          simp only [Option.some.injEq, Prod.mk.injEq] at h
          rw [← h.1]
          exact .cond x _ (annJ_ok h1) (annJ_ok h2)
        · cases h
      · cases h
    · split at h
      · rename_i b1 l2 h2
        simp only [Option.some.injEq, Prod.mk.injEq] at h
        rw [← h.1]
        exact .cond x _ (.hole a) (annJ_ok h2)
      · cases h
    · split at h
      · rename_i b1 l2 h2
        simp only [Option.some.injEq, Prod.mk.injEq] at h
        rw [← h.1]
        exact .cond x _ (annJ_ok h2) (.hole b)
      · cases h
    · simp only [Option.some.injEq, Prod.mk.injEq] at h
      rw [← h.1]
      exact .hole _
    · cases h
  | .block id b, l, e, l', h => by
    simp only [annJ] at h
    split at h
    · split at h
      · rename_i b1 l2 h2
        simp only [Option.some.injEq, Prod.mk.injEq] at h
        rw [← h.1]
        exact .block id _ (annJ_ok h2)
      · cases h
    · cases h
  | .loop b, l, e, l', h => by
    simp only [annJ] at h
    split at h
    · split at h
      · rename_i b1 l2 h2
        simp only [Option.some.injEq, Prod.mk.injEq] at h
        rw [← h.1]
        exact .loop _ (annJ_ok h2)
      · cases h
    · cases h

/- what is carried over a join -/
theorem memB_iff {l : List Nat} {t : Nat} : memB l t = true ↔ t ∈ l := by
  constructor
  · exact memB_el
  · intro h
    cases hb : memB l t with
    | true => rfl
    | false => exact absurd h (memB_no hb)
theorem less_el {asg : List Nat} : ∀ {ρ : EV} {t : Nat} {v : AV}, lkE t (lessE asg ρ) = some v → t ∉ asg ∧ lkE t ρ = some v
  | [], t, v, h => by cases h
  | (d, u) :: ρ, t, v, h => by
    have hl : lessE asg ((d, u) :: ρ) = Bool.rec (motive := fun _ => EV) ((d, u) :: lessE asg ρ) (lessE asg ρ) (memB asg d) := rfl
    rw [hl] at h
    cases hm : memB asg d with
    | true =>
      rw [hm] at h
      obtain ⟨h1, h2⟩ := less_el (ρ := ρ) h
      refine ⟨h1, ?_⟩
      rw [lkE_cons, if_neg (fun e => h1 (by rw [e]; exact memB_el hm))]
      exact h2
    | false =>
      rw [hm] at h
      replace h : lkE t ((d, u) :: lessE asg ρ) = some v := h
      rw [lkE_cons] at h ⊢
      split at h
      · rename_i ht
        rw [if_pos ht]
        exact ⟨by rw [ht]; exact memB_no hm, h⟩
      · rename_i ht
        rw [if_neg ht]
        exact less_el (ρ := ρ) h
theorem mem_catN {a b : List Nat} {t : Nat} : t ∈ catN a b ↔ t ∈ a ∨ t ∈ b := by
  induction a with
  | nil => simp [catN]
  | cons x l ih =>
    show t ∈ x :: catN l b ↔ _
    simp [ih, or_assoc]

section
variable {P : Program} {A : Ann} {f nt : Nat} {r : AV}

theorem pops_el {rg : Nat → AV} {F : EV → List AV → RT} : ∀ {j : List Nat} {vs : List AV} {ρ : EV}, EnvOK ρ rg → (∀ (i : Nat) t v, j[i]? = some t → vs[i]? = some v → rg t = v) → popsE j vs ρ F = some r → ∃ ρ2, EnvOK ρ2 rg ∧ j.length ≤ vs.length ∧ F ρ2 (vs.drop j.length) = some r
  | [], vs, ρ, h, _, e => ⟨ρ, h, Nat.zero_le _, e⟩
  | t :: j, [], ρ, h, _, e => (nn e).elim
  | t :: j, v :: vs, ρ, h, hv, e => by
    replace e : popsE j vs ((t, v) :: ρ) F = some r := e
    have h2 : EnvOK ((t, v) :: ρ) rg := by
      intro u w hu
      rw [lkE_cons] at hu
      split at hu
      · rename_i hut
        rw [hut, hv 0 t v rfl rfl]
        exact Option.some.inj hu
      · exact h u w hu
    obtain ⟨ρ2, a, b, c⟩ := pops_el h2 (fun i t' v' h1 h2 => hv (i + 1) t' v' (by simpa using h1) (by simpa using h2)) e
    exact ⟨ρ2, a, by simpa using b, c⟩
theorem jvE_at {ρ : EV} : ∀ {j : List Nat} (_ : okJ ρ j = true) (i : Nat) t v, j[i]? = some t → (jvE ρ j)[i]? = some v → lkE t ρ = some v
  | [], _, i, t, v, h, _ => by simp at h
  | u :: j, hk, i, t, v, h1, h2 => by
    replace hk : Bool.rec (motive := fun _ => Bool) false (okJ ρ j) (okR ρ u) = true := hk
    obtain ⟨k1, k2⟩ := and2 hk
    cases i with
    | zero =>
      simp only [List.getElem?_cons_zero, Option.some.injEq] at h1
      subst h1
      replace h2 : some (xrE ρ u) = some v := h2
      rw [(okR_el k1).2, h2]
    | succ i => exact jvE_at k2 i t v (by simpa using h1) h2
theorem go_el {j : List Nat} {ρ : EV} {K : KJ} {s : HS} (e : goE j ρ K s = some r) : okJ ρ j = true ∧ K (jvE ρ j) s = some r := br_t e
theorem join_ok {j asg : List Nat} {ρ ρ' : EV} {K : EV → HS → RT} {s' : HS} {rg rg' : Nat → AV} (hf : EnvOK ρ rg) (hf' : EnvOK ρ' rg') (hq : ∀ t, t ∉ asg → rg' t = rg t) (e : goE j ρ' (joinE j asg ρ K) s' = some r) : ∃ ρ2, EnvOK ρ2 rg' ∧ K ρ2 s' = some r := by
  obtain ⟨hk, e⟩ := go_el e
  replace e : popsE j (jvE ρ' j) (lessE asg ρ) (fun ρ _ => K ρ s') = some r := e
  obtain ⟨ρ2, a, _, c⟩ := pops_el (rg := rg') (fun t v hv => by
    obtain ⟨h1, h2⟩ := less_el hv
    rw [hq t h1]
    exact hf t v h2) (fun i t v h1 h2 => hf' t v (jvE_at hk i t v h1 h2)) e
  exact ⟨ρ2, a, c⟩

/- code -/
def GoesE (cx : CX) (KN KR : EV → HS → RT) (x : AX) (rg : Nat → AV) (s : HS) (r : AV) : Prop := ∃ ρ, EnvOK ρ rg ∧ (match x with
  | .norm => KN ρ s = some r
  | .exit i => exitE i cx ρ s = some r
  | .ret => KR ρ s = some r)
def COutE (P : Program) (A : Ann) (f nt : Nat) (c0 : Code) (asg : List Nat) (fr : Fr) (s : HS) (h : Heap) (n : Nat) (Q : AX → (Nat → AV) → HS → Prop) : Prop :=
  ∃ x fr' h' n' lg s', (∃ k0, ∀ k, k0 ≤ k → exec (callN P A k) P A f nt k c0 fr h n = some ((x, fr'), h', n', lg)) ∧ Nx (unb s) h n lg (unb s') h' n' ∧ s'.bx = fr'.boxes ∧ (∀ t, t ∉ asg → fr'.regs t = fr.regs t) ∧ Q x fr'.regs s'

theorem codeE_ok {cl : CL} (hc : CLok P A cl) (kk : Nat) (KR : EV → HS → RT) : ∀ {c0 : Code} {c : EC} {e : EJ} {r : AV} {cx : CX} {ρ : EV} {s : HS} {K : EV → HS → RT} {fr : Fr} {h : Heap} {n : Nat}, ecC P A f c0 = some c → JE e c → dok nt c = true → EnvOK ρ fr.regs → s.bx = fr.boxes → Rel s h n → codeE cl kk KR e cx ρ s K = some r →
    COutE P A f nt c0 (asgE e) fr s h n fun x rg s => GoesE cx K KR x rg s r
  | .skip, c, e, r, cx, ρ, s, K, fr, h, n, hcc, hj, hd, hf, hb, hr, x => by
    simp only [ecC, Option.some.injEq] at hcc
    subst hcc
    cases hj with
    | hole => exact (nn x).elim
    | skip => exact ⟨.norm, fr, h, n, ([], []), s, ⟨0, fun k _ => rfl⟩, Nx.refl hr.ub, hb, fun _ _ => rfl, ρ, hf, x⟩
  | .exit i, c, e, r, cx, ρ, s, K, fr, h, n, hcc, hj, hd, hf, hb, hr, x => by
    simp only [ecC, Option.some.injEq] at hcc
    subst hcc
    cases hj with
    | hole => exact (nn x).elim
    | exit => exact ⟨.exit i, fr, h, n, ([], []), s, ⟨0, fun k _ => rfl⟩, Nx.refl hr.ub, hb, fun _ _ => rfl, ρ, hf, x⟩
  | .ret, c, e, r, cx, ρ, s, K, fr, h, n, hcc, hj, hd, hf, hb, hr, x => by
    simp only [ecC, Option.some.injEq] at hcc
    subst hcc
    cases hj with
    | hole => exact (nn x).elim
    | ret => exact ⟨.ret, fr, h, n, ([], []), s, ⟨0, fun k _ => rfl⟩, Nx.refl hr.ub, hb, fun _ _ => rfl, ρ, hf, x⟩
  | .region i ops dr, c, e, r, cx, ρ, s, K, fr, h, n, hcc, hj, hd, hf, hb, hr, x => by
    simp only [ecC] at hcc
    obtain ⟨l, hl, rfl⟩ := omap hcc
    cases hj with
    | hole => exact (nn x).elim
    | reg =>
      obtain ⟨fr', h', n', lg, ρ', s', ⟨k0, hk⟩, nx, hf', hb', hq, x⟩ := regE_ok (dr := dr) (i := i) hc hl hd hf hb hr x
      exact ⟨.norm, fr', h', n', lg, s', ⟨k0, fun k hle => hk k hle k⟩, nx, hb', hq, ρ', hf', x⟩
  | .seq a0 b0, c, e, r, cx, ρ, s, K, fr, h, n, hcc, hj, hd, hf, hb, hr, x => by
    simp only [ecC] at hcc
    split at hcc
    · rename_i a b ha hbb
      simp only [Option.some.injEq] at hcc
      subst hcc
      simp only [dok, Bool.and_eq_true] at hd
      cases hj with
      | hole => exact (nn x).elim
      | @seq ea eb _ _ ja jb =>
        replace x : codeE cl kk KR ea cx ρ s (fun ρ s => codeE cl kk KR eb cx ρ s K) = some r := x
        obtain ⟨y, fr1, h1, n1, l1, s1, ⟨k1, c1⟩, nx1, hb1, hq1, ρ1, hf1, q1⟩ := codeE_ok hc kk KR ha ja hd.1 hf hb hr x
        cases y with
        | norm =>
          obtain ⟨y, fr2, h2, n2, l2, s2, ⟨k2, c2⟩, nx2, hb2, hq2, g2⟩ := codeE_ok hc kk KR hbb jb hd.2 hf1 hb1 nx1.rel.bu q1
          refine ⟨y, fr2, h2, n2, _, s2, ⟨max k1 k2, fun k hk => ?_⟩, nx1.trans nx2, hb2, fun t ht => ?_, g2⟩
          · simp only [exec]
            exact am_bind (c1 k (by omega)) (c2 k (by omega))
          · have ht := not_or.1 (fun h => ht ((mem_catN (a := asgE ea) (b := asgE eb)).2 h))
            rw [hq2 t ht.2, hq1 t ht.1]
        | exit i =>
          refine ⟨.exit i, fr1, h1, n1, _, s1, ⟨k1, fun k hk => ?_⟩, nx1.trans (Nx.refl nx1.rel), hb1, fun t ht => hq1 t fun h => ht ((mem_catN (a := asgE ea) (b := asgE eb)).2 (.inl h)), ρ1, hf1, q1⟩
          simp only [exec]
          exact am_bind (l2 := ([], [])) (c1 k hk) rfl
        | ret =>
          refine ⟨.ret, fr1, h1, n1, _, s1, ⟨k1, fun k hk => ?_⟩, nx1.trans (Nx.refl nx1.rel), hb1, fun t ht => hq1 t fun h => ht ((mem_catN (a := asgE ea) (b := asgE eb)).2 (.inl h)), ρ1, hf1, q1⟩
          simp only [exec]
          exact am_bind (l2 := ([], [])) (c1 k hk) rfl
    · cases hcc
  | .cond c0 a0 b0, c, e, r, cx, ρ, s, K, fr, h, n, hcc, hj, hd, hf, hb, hr, z => by
    simp only [ecC] at hcc
    split at hcc
    · rename_i x a b hx ha hbb
      simp only [Option.some.injEq] at hcc
      subst hcc
      simp only [dok, Bool.and_eq_true] at hd
      cases hj with
      | hole => exact (nn z).elim
      | @cond _ j ea eb _ _ ja jb =>
        replace z : Bool.rec (motive := fun _ => RT) none (Bool.rec (motive := fun _ => RT) (cnd (xvE ρ x) (codeE cl kk KR ea cx ρ s K) (codeE cl kk KR eb cx ρ s K)) (cnd (xvE ρ x) (codeE cl kk KR ea cx ρ s fun ρ' s => goE j ρ' (joinE j (catN (asgE ea) (asgE eb)) ρ K) s) (codeE cl kk KR eb cx ρ s fun ρ' s => goE j ρ' (joinE j (catN (asgE ea) (asgE eb)) ρ K) s)) (Bool.rec (motive := fun _ => Bool) false (fallsE eb) (fallsE ea))) (okX ρ x) = some r := z
        obtain ⟨hok, z⟩ := br_t z
        have hev : evalA A fr.regs c0 = some (xvE ρ x) := ev_sound (mkR_regs fr.regs).sat hx (evR3 hf.r hok)
        have main : ∀ {K' : EV → HS → RT}, (∀ {rg' : Nat → AV} {ρ' s'}, (∀ t, t ∉ catN (asgE ea) (asgE eb) → rg' t = fr.regs t) → EnvOK ρ' rg' → K' ρ' s' = some r → ∃ ρ2, EnvOK ρ2 rg' ∧ K ρ2 s' = some r) → cnd (xvE ρ x) (codeE cl kk KR ea cx ρ s K') (codeE cl kk KR eb cx ρ s K') = some r → COutE P A f nt (.cond c0 a0 b0) (catN (asgE ea) (asgE eb)) fr s h n fun x rg s => GoesE cx K KR x rg s r := by
          intro K' hK z
          have fin : ∀ {asg : List Nat} {d0 : Code} {p : Bool}, (∀ t, t ∈ asg → t ∈ catN (asgE ea) (asgE eb)) → COutE P A f nt d0 asg fr s h n (fun x rg s => GoesE cx K' KR x rg s r) → (∀ k, exec (callN P A k) P A f nt k (.cond c0 a0 b0) fr h n = exec (callN P A k) P A f nt k d0 fr h n) → COutE P A f nt (.cond c0 a0 b0) (catN (asgE ea) (asgE eb)) fr s h n fun x rg s => GoesE cx K KR x rg s r := by
            intro asg d0 p hin ⟨y, fr1, h1, n1, l1, s1, ⟨k1, c1⟩, nx1, hb1, hq1, ρ1, hf1, q1⟩ hex
            have hq : ∀ t, t ∉ catN (asgE ea) (asgE eb) → fr1.regs t = fr.regs t := fun t ht => hq1 t fun h => ht (hin t h)
            refine ⟨y, fr1, h1, n1, l1, s1, ⟨k1, fun k hk => by rw [hex]; exact c1 k hk⟩, nx1, hb1, hq, ?_⟩
            cases y with
            | norm =>
              obtain ⟨ρ2, g1, g2⟩ := hK hq hf1 q1
              exact ⟨ρ2, g1, g2⟩
            | exit i => exact ⟨ρ1, hf1, q1⟩
            | ret => exact ⟨ρ1, hf1, q1⟩
          replace z := asBool_el z
          obtain ⟨p, hp, z⟩ := z
          rw [hp] at hev
          rcases br_b z with ⟨rfl, z⟩ | ⟨rfl, z⟩
          · exact fin (p := false) (fun t h => mem_catN.2 (.inr h)) (codeE_ok hc kk KR hbb jb hd.2 hf hb hr z) (fun k => by simp only [exec, hev])
          · exact fin (p := true) (fun t h => mem_catN.2 (.inl h)) (codeE_ok hc kk KR ha ja hd.1 hf hb hr z) (fun k => by simp only [exec, hev])
        rcases br_b z with ⟨_, z⟩ | ⟨_, z⟩
        · exact main (fun _ h2 h3 => ⟨_, h2, h3⟩) z
        · exact main (fun h1 h2 h3 => join_ok hf h2 h1 h3) z
    · cases hcc
  | .block id b0, c, e, r, cx, ρ, s, K, fr, h, n, hcc, hj, hd, hf, hb, hr, x => by
    simp only [ecC] at hcc
    obtain ⟨b, hbb, rfl⟩ := omap hcc
    cases hj with
    | hole => exact (nn x).elim
    | @block _ j eb _ jb =>
      replace x : codeE cl kk KR eb ((id, j, joinE j (asgE eb) ρ K) :: cx) ρ s (fun ρ' s => goE j ρ' (joinE j (asgE eb) ρ K) s) = some r := x
      obtain ⟨y, fr1, h1, n1, l1, s1, ⟨k1, c1⟩, nx1, hb1, hq1, ρ1, hf1, q1⟩ := codeE_ok hc kk KR hbb jb hd hf hb hr x
      have fin : ∀ {z}, z = (if y = .exit id then .norm else y) → GoesE cx K KR z fr1.regs s1 r → COutE P A f nt (.block id b0) (asgE eb) fr s h n fun x rg s => GoesE cx K KR x rg s r := by
        intro z hz q
        refine ⟨z, fr1, h1, n1, _, s1, ⟨k1, fun k hk => ?_⟩, nx1.trans (Nx.refl nx1.rel), hb1, hq1, q⟩
        simp only [exec]
        refine am_bind (l2 := ([], [])) (c1 k hk) ?_
        rw [hz]
        rfl
      cases y with
      | norm =>
        obtain ⟨ρ2, g1, g2⟩ := join_ok hf hf1 hq1 q1
        exact fin (z := .norm) (by simp) ⟨ρ2, g1, g2⟩
      | exit i =>
        replace q1 : Bool.rec (motive := fun _ => RT) (exitE i cx ρ1 s1) (goE j ρ1 (joinE j (asgE eb) ρ K) s1) (Nat.beq i id) = some r := q1
        rcases br_b q1 with ⟨hi, q⟩ | ⟨hi, q⟩
        · have := beq_ne hi
          exact fin (z := .exit i) (by rw [if_neg (by simpa using this)]) ⟨ρ1, hf1, q⟩
        · have := beq_eq hi
          subst this
          obtain ⟨ρ2, g1, g2⟩ := join_ok hf hf1 hq1 q
          exact fin (z := .norm) (by simp) ⟨ρ2, g1, g2⟩
      | ret => exact fin (z := .ret) (by simp) ⟨ρ1, hf1, q1⟩
  | .loop b0, c, e, r, cx, ρ, s, K, fr, h, n, hcc, hj, hd, hf, hb, hr, x => by
    simp only [ecC] at hcc
    obtain ⟨b, hbb, rfl⟩ := omap hcc
    cases hj with
    | hole => exact (nn x).elim
    | @loop j eb _ jb =>
      let B : KJ → KJ := fun rc vs s => popsE j vs (lessE (asgE eb) ρ) fun ρ _ => codeE cl kk KR eb cx ρ s fun ρ s => goE j ρ rc s
      replace x : goE j ρ (loopE kk B) s = some r := x
      have loop : ∀ (m : Nat) {ρ1 : EV} {s : HS} {fr1 : Fr} {h : Heap} {n : Nat}, EnvOK ρ1 fr1.regs → (∀ t, t ∉ asgE eb → fr1.regs t = fr.regs t) → s.bx = fr1.boxes → Rel s h n → goE j ρ1 (loopE m B) s = some r →
          ∃ x fr' h' n' lg s', (∃ k0, ∀ k, k0 ≤ k → ∀ i, m ≤ i → loopN (fun fr => exec (callN P A k) P A f nt k b0 fr) i fr1 h n = some ((x, fr'), h', n', lg)) ∧ Nx (unb s) h n lg (unb s') h' n' ∧ s'.bx = fr'.boxes ∧ (∀ t, t ∉ asgE eb → fr'.regs t = fr.regs t) ∧ GoesE cx K KR x fr'.regs s' r := by
        intro m
        induction m with
        | zero => intro ρ1 s fr1 h n _ _ _ _ e; obtain ⟨_, e⟩ := go_el e; exact (nn e).elim
        | succ m ih =>
          intro ρ1 s fr1 h n hf1 hq hb1 hr e
          have e : goE j ρ1 (joinE j (asgE eb) ρ fun ρ s => codeE cl kk KR eb cx ρ s fun ρ s => goE j ρ (loopE m B) s) s = some r := e
          obtain ⟨ρ2, g1, g2⟩ := join_ok hf hf1 hq e
          obtain ⟨y, fr2, h2, n2, l2, s2, ⟨k1, c1⟩, nx1, hb2, hq2, ρ3, hf2, q1⟩ := codeE_ok hc kk KR hbb jb hd g1 hb1 hr g2
          have hq3 : ∀ t, t ∉ asgE eb → fr2.regs t = fr.regs t := fun t ht => (hq2 t ht).trans (hq t ht)
          cases y with
          | norm =>
            obtain ⟨y, fr3, h3, n3, l3, s3, ⟨k2, c2⟩, nx2, hb3, hq4, q2⟩ := ih hf2 hq3 hb2 nx1.rel.bu q1
            refine ⟨y, fr3, h3, n3, _, s3, ⟨max k1 k2, fun k hk i hi => ?_⟩, nx1.trans nx2, hb3, hq4, q2⟩
            obtain ⟨i, rfl⟩ : ∃ i', i = i' + 1 := ⟨i - 1, by omega⟩
            unfold loopN
            exact am_bind (c1 k (by omega)) (c2 k (by omega) i (by omega))
          | exit i =>
            refine ⟨.exit i, fr2, h2, n2, _, s2, ⟨k1, fun k hk i' hi => ?_⟩, nx1.trans (Nx.refl nx1.rel), hb2, hq3, ρ3, hf2, q1⟩
            obtain ⟨i', rfl⟩ : ∃ i'', i' = i'' + 1 := ⟨i' - 1, by omega⟩
            unfold loopN
            exact am_bind (l2 := ([], [])) (c1 k (by omega)) rfl
          | ret =>
            refine ⟨.ret, fr2, h2, n2, _, s2, ⟨k1, fun k hk i' hi => ?_⟩, nx1.trans (Nx.refl nx1.rel), hb2, hq3, ρ3, hf2, q1⟩
            obtain ⟨i', rfl⟩ : ∃ i'', i' = i'' + 1 := ⟨i' - 1, by omega⟩
            unfold loopN
            exact am_bind (l2 := ([], [])) (c1 k (by omega)) rfl
      obtain ⟨y, fr1, h1, n1, l1, s1, ⟨k1, c1⟩, nx1, hb1, hq1, q1⟩ := loop kk hf (fun _ _ => rfl) hb hr x
      refine ⟨y, fr1, h1, n1, l1, s1, ⟨max k1 kk, fun k hk => ?_⟩, nx1, hb1, hq1, q1⟩
      simp only [exec]
      exact c1 k (by omega) k (by omega)
  | .rangeFunc _ _ _ _, _, _, _, _, _, _, _, _, _, _, hcc, _, _, _, _, _, _ => by simp [ecC] at hcc
  | .scope _, _, _, _, _, _, _, _, _, _, _, hcc, _, _, _, _, _, _ => by simp [ecC] at hcc
  | .label _, _, _, _, _, _, _, _, _, _, _, hcc, _, _, _, _, _, _ => by simp [ecC] at hcc
  | .goto _, _, _, _, _, _, _, _, _, _, _, hcc, _, _, _, _, _, _ => by simp [ecC] at hcc

/- results -/
theorem resX_ok {x : RSv} {v0 : ResultVar} {R : RG} {s : HS} {K : AV → HS → RT} {rg : Nat → AV} {h : Heap} {n : Nat} (hs : Regs R rg) (hr : Rel s h n) (e : resX x R s K = some r)
    (hx : (∃ t, x = .t t ∧ v0 = .tmp t) ∨ ∃ a t m, x = .c a m ∧ v0 = .cell a t ∧ cellsN P t = some m) :
    ∃ v lg s1, (∀ (l : List ResultVar) (vs : List AV) (h' : Heap) (n' : Nat) (l2 : Log), resultsA P rg l h n = some (vs, h', n', l2) → h' = h → n' = n → resultsA P rg (v0 :: l) h n = some (v :: vs, h, n, (lg.1 ++ l2.1, lg.2 ++ l2.2))) ∧ Nx s h n lg s1 h n ∧ K v s1 = some r := by
  rcases hx with ⟨t, rfl, rfl⟩ | ⟨a, t, m, rfl, rfl, hm⟩
  · replace e : xT t R (fun v => K v s) = some r := e
    obtain ⟨e1, e⟩ := xT_el e
    refine ⟨_, ([], []), s, ?_, Nx.refl hr, e⟩
    rintro l vs h' n' l2 hl rfl rfl
    simp only [resultsA]
    unfold AM.bind
    rw [hl]
    simp [AM.pure, hs.sat _ _ e1]
  · replace e : xT a R (fun p => ldA p (takeC m) s K) = some r := e
    obtain ⟨e1, e⟩ := xT_el e
    obtain ⟨v, lg, s1, h1, nx, e⟩ := ldA_el hm hr e
    refine ⟨v, lg, s1, ?_, nx, e⟩
    rintro l vs h' n' l2 hl rfl rfl
    simp only [resultsA]
    rw [← hs.sat _ _ e1] at h1
    have := am_bind (g := fun v => AM.bind (resultsA P rg l) fun vs => AM.pure (v :: vs)) h1 (am_bind (g := fun vs => AM.pure (v :: vs)) (l2 := ([], [])) hl rfl)
    simpa using this
theorem rsOf_cons {v0 : ResultVar} {l : List ResultVar} {rs : List RSv} (h : rsOf P (v0 :: l) = some rs) : ∃ x rs', rs = x :: rs' ∧ rsOf P l = some rs' ∧ ((∃ t, x = .t t ∧ v0 = .tmp t) ∨ ∃ a t m, x = .c a m ∧ v0 = .cell a t ∧ cellsN P t = some m) := by
  cases v0 with
  | tmp t =>
    simp only [rsOf] at h
    obtain ⟨r', h1, rfl⟩ := omap h
    exact ⟨.t t, r', rfl, h1, .inl ⟨t, rfl, rfl⟩⟩
  | cell a t =>
    simp only [rsOf] at h
    split at h
    · rename_i m r' h1 h2
      simp only [Option.some.injEq] at h
      exact ⟨.c a m, r', h.symm, h2, .inr ⟨a, t, m, rfl, rfl, h1⟩⟩
    · cases h
theorem resQ_ok {R : RG} {rg : Nat → AV} (hs : Regs R rg) : ∀ {l : List ResultVar} {rs : List RSv} {s : HS} {K : List AV → HS → RT} {h : Heap} {n : Nat}, rsOf P l = some rs → Rel s h n → resQ rs R s K = some r →
    ∃ vs lg s1, (∃ l2, resultsA P rg l h n = some (vs, h, n, l2) ∧ lg = l2) ∧ Nx s h n lg s1 h n ∧ vs.length = l.length ∧ K vs s1 = some r
  | [], rs, s, K, h, n, hl, hr, e => by
    simp only [rsOf, Option.some.injEq] at hl
    subst hl
    exact ⟨[], _, s, ⟨_, rfl, rfl⟩, Nx.refl hr, rfl, e⟩
  | v0 :: l, rs, s, K, h, n, hl, hr, e => by
    obtain ⟨x, rs', rfl, h1, hx⟩ := rsOf_cons hl
    replace e : resX x R s (fun v s => resQ rs' R s fun vs s => K (v :: vs) s) = some r := e
    obtain ⟨v, lg, s1, h2, nx, e⟩ := resX_ok hs hr e hx
    obtain ⟨vs, l2, s2, ⟨l3, h3, rfl⟩, nx2, hlen, e⟩ := resQ_ok hs h1 nx.rel e
    exact ⟨v :: vs, _, s2, ⟨_, h2 l vs h n l2 h3 rfl rfl, rfl⟩, nx.trans nx2, by simp [hlen], e⟩
theorem resC_ok {R : RG} {rg : Nat → AV} (hs : Regs R rg) {l : List ResultVar} {rs : List RSv} {s : HS} {K : AV → HS → RT} {h : Heap} {n : Nat} (hl : rsOf P l = some rs) (hr : Rel s h n) (e : resC rs R s K = some r) :
    ∃ vs lg s1, resultsA P rg l h n = some (vs, h, n, lg) ∧ Nx s h n lg s1 h n ∧ K (tupled vs) s1 = some r := by
  cases l with
  | nil =>
    simp only [rsOf, Option.some.injEq] at hl
    subst hl
    exact ⟨[], ([], []), s, rfl, Nx.refl hr, e⟩
  | cons v0 l =>
    obtain ⟨x, rs', rfl, h1, hx⟩ := rsOf_cons hl
    cases l with
    | nil =>
      simp only [rsOf, Option.some.injEq] at h1
      subst h1
      replace e : resX x R s K = some r := e
      obtain ⟨v, lg, s1, h2, nx, e⟩ := resX_ok hs hr e hx
      have := h2 [] [] h n ([], []) rfl rfl rfl
      exact ⟨[v], lg, s1, by simpa using this, nx, e⟩
    | cons v1 l =>
      obtain ⟨y, rs2, rfl, h2, hy⟩ := rsOf_cons h1
      replace e : resQ (x :: y :: rs2) R s (fun vs s => K (.tup vs) s) = some r := e
      obtain ⟨vs, lg, s1, ⟨l2, h3, rfl⟩, nx, hlen, e⟩ := resQ_ok hs hl hr e
      refine ⟨vs, lg, s1, h3, nx, ?_⟩
      match vs, hlen with
      | a :: b :: vs, _ => exact e

/- freezing -/
def FrzOk (g : AV → HC AV) (m : AV → AM AV) : Prop := ∀ (r v : AV) (s : HS) (h : Heap) (n : Nat) (K : AV → HS → RT), Rel s h n → g v s K = some r → ∃ w h' lg s1, m v h n = some (w, h', n, lg) ∧ Nx s h n lg s1 h' n ∧ K w s1 = some r
theorem frzW_ok {g : AV → HC AV} {m : AV → AM AV} (hg : FrzOk g m) :
    ∀ {l : List AV} {s : HS} {h : Heap} {n : Nat} {K : List AV → HS → RT}, Rel s h n → frzW g l s K = some r → ∃ ws h' lg s1, freezeW m l h n = some (ws, h', n, lg) ∧ Nx s h n lg s1 h' n ∧ K ws s1 = some r
  | [], s, h, n, K, hr, e => ⟨[], h, ([], []), s, rfl, Nx.refl hr, e⟩
  | v :: l, s, h, n, K, hr, e => by
    replace e : g v s (fun v s => frzW g l s fun r s => K (v :: r) s) = some r := e
    obtain ⟨w, h1, l1, s1, e1, nx1, e⟩ := hg _ _ _ _ _ _ hr e
    obtain ⟨ws, h2, l2, s2, e2, nx2, e⟩ := frzW_ok hg nx1.rel e
    refine ⟨w :: ws, h2, _, s2, ?_, nx1.trans nx2, e⟩
    simp only [freezeW]
    have := am_bind (g := fun v => AM.bind (freezeW m l) fun r => AM.pure (v :: r)) e1 (am_bind (g := fun r => AM.pure (w :: r)) (l2 := ([], [])) e2 rfl)
    simpa using this
theorem frzN_ok : ∀ (k : Nat), FrzOk (frzN k) (freezeV k)
  | 0 => fun _ _ _ _ _ _ _ e => (nn e).elim
  | k + 1 => fun r v s h n K hr e => by
    cases v with
    | sl id off len sz =>
      replace e : mcells id s (fun cs s => sliC cs off (Nat.mul len sz) fun cs => mkill id s fun _ s => frzW (frzN k) cs s fun cs s => K (.tsl cs len) s) = some r := e
      obtain ⟨cs, s1, h1, nx1, e⟩ := mcells_el hr e
      obtain ⟨l, h3, e⟩ := sliC_el e
      obtain ⟨s2, h2, nx2, e⟩ := mkill_el nx1.rel e
      obtain ⟨ws, h4, l4, s3, e4, nx3, e⟩ := frzW_ok (frzN_ok k) nx2.rel e
      have h3 : sliceL cs off (len * sz) = some l := h3
      refine ⟨_, _, _, s3, ?_, (nx1.trans nx2).trans nx3, e⟩
      simp [freezeV, AM.bind, AM.get, h1, AM.lift, h3, AM.kill, AM.pure, e4]
    | agg l =>
      replace e : frzW (frzN k) l s (fun cs s => K (.agg cs) s) = some r := e
      obtain ⟨ws, h4, l4, s3, e4, nx3, e⟩ := frzW_ok (frzN_ok k) hr e
      refine ⟨_, _, _, s3, ?_, nx3, e⟩
      simp [freezeV, AM.bind, AM.pure, e4]
    | tup l =>
      replace e : frzW (frzN k) l s (fun cs s => K (.tup cs) s) = some r := e
      obtain ⟨ws, h4, l4, s3, e4, nx3, e⟩ := frzW_ok (frzN_ok k) hr e
      refine ⟨_, _, _, s3, ?_, nx3, e⟩
      simp [freezeV, AM.bind, AM.pure, e4]
    | _ => exact ⟨_, h, ([], []), s, rfl, Nx.refl hr, e⟩


/- results by known registers -/
theorem rXE_eq {ρ : EV} {R : RG} (hR : EnvR ρ R) {x : RSv} (h : RSv.rec (motive := fun _ => Bool) (fun t => okR ρ t) (fun t _ => okR ρ t) x = true) (s : HS) (K : AV → HS → RT) : resX x R s K = rXE ρ x s K := by
  cases x with
  | t i => exact xT_ev hR h _
  | c i m => exact xT_ev hR h _
theorem rQE_eq {ρ : EV} {R : RG} (hR : EnvR ρ R) : ∀ {l : List RSv} (_ : okRs ρ l = true) (s : HS) (K : List AV → HS → RT), resQ l R s K = rQE ρ l s K
  | [], _, _, _ => rfl
  | x :: l, h, s, K => by
    obtain ⟨h1, h2⟩ := and2 (show Bool.rec (motive := fun _ => Bool) false (okRs ρ l) (RSv.rec (motive := fun _ => Bool) (fun t => okR ρ t) (fun t _ => okR ρ t) x) = true from h)
    show resX x R s (fun v s => resQ l R s fun vs s => K (v :: vs) s) = _
    rw [rXE_eq hR h1]
    have ih : (fun (v : AV) (s : HS) => resQ l R s fun vs s => K (v :: vs) s) = fun v s => rQE ρ l s fun vs s => K (v :: vs) s := by
      funext v s
      exact rQE_eq hR h2 s _
    rw [ih]
    cases x <;> rfl
theorem rsE_eq {ρ : EV} {R : RG} (hR : EnvR ρ R) {l : List RSv} (h : okRs ρ l = true) (s : HS) (K : AV → HS → RT) : resC l R s K = rsE ρ l s K := by
  match l, h with
  | [], _ => rfl
  | [x], h =>
    have h1 := (and2 (show Bool.rec (motive := fun _ => Bool) false (okRs ρ []) (RSv.rec (motive := fun _ => Bool) (fun t => okR ρ t) (fun t _ => okR ρ t) x) = true from h)).1
    show resX x R s K = _
    rw [rXE_eq hR h1]
    cases x <;> rfl
  | x :: y :: l, h =>
    show resQ (x :: y :: l) R s (fun vs s => K (.tup vs) s) = rQE ρ (x :: y :: l) s fun vs s => K (.tup vs) s
    exact rQE_eq hR h s _

/- a function's code -/
def CodeOK (P : Program) (A : Ann) (f : Nat) (code : F2C) : Prop := ∀ cl, CLok P A cl → ∀ (kk : Nat) (vs : List AV) (s : HS) (K : AV → HS → RT) (h : Heap) (n : Nat) (r : AV), s.bx = [] → Rel s h n → code cl kk vs s K = some r →
    ∃ v bx h' n' lg s1, (∃ k0, ∀ k, k0 ≤ k → body (callN P A k) P A k f vs h n = some ((v, bx), h', n', lg)) ∧ Nx (unb s) h n lg (unb s1) h' n' ∧ s1.bx = bx ∧ K v s1 = some r

theorem mkQ_ok {vs : List AV} (hl : vs.length ≤ 512) : ∀ q, EnvOK (mkQ q) (initRegs vs)
  | [] => fun t v h => by cases h
  | n :: q => fun t v h => by
    replace h : lkE t ((600 + n, .undef) :: mkQ q) = some v := h
    rw [lkE_cons] at h
    split at h
    · rename_i ht
      subst ht
      cases h
      show vs.getD (600 + n) .undef = .undef
      rw [List.getD_eq_getElem?_getD, List.getElem?_eq_none (by omega)]
      rfl
    · exact mkQ_ok hl q t v h
theorem endE_len {j : List Nat} : ∀ {vs : List AV} {ρ : EV} {F : EV → RT} {r : AV}, popsE j vs ρ (fun ρ vs => endE vs (F ρ)) = some r → vs.length = j.length := by
  induction j with
  | nil =>
    intro vs ρ F r e
    cases vs with
    | nil => rfl
    | cons a l => exact (nn (show (none : RT) = some r from e)).elim
  | cons t j ih =>
    intro vs ρ F r e
    cases vs with
    | nil => exact (nn (show (none : RT) = some r from e)).elim
    | cons a l =>
      have := ih (vs := l) (ρ := (t, a) :: ρ) (F := F) e
      simp [this]
theorem fnQ_ok {q : List Nat} {fn : Func} {c0 : Code} {c : EC} {e : EJ} {rs : List RSv} {np : Nat} {fz : Bool} (e1 : P.funcs[f]? = some fn) (e2 : fn.body = some c0) (e3 : ecC P A f c0 = some c) (e4 : rsOf P fn.results.toList = some rs) (e5 : (fn.name == "runtime.NumGoroutine") = false) (e6 : dok fn.ntmps c = true)
    (hj : JE e c) (hnp : np ≤ fn.ntmps) (h512 : fn.ntmps ≤ 512) (hfz : fz = A.fz f) : CodeOK P A f (fnQ q (List.range np) e rs fz) := by
  intro cl hc kk vs s K h n r hbx hr x
  replace x : popsE (List.range np) vs (mkQ q) (fun ρ vs => endE vs (codeE cl kk (rtE rs fz K) e [] ρ s (rtE rs fz K))) = some r := x
  have hlen0 : vs.length ≤ 512 := by
    have := endE_len x
    rw [List.length_range] at this
    omega
  obtain ⟨ρ, hρ, hlen, x⟩ := pops_el (rg := initRegs vs) (mkQ_ok hlen0 q) (fun i t v h1 h2 => by
    have hi : i < np := by
      have := (List.getElem?_eq_some_iff.1 h1).1
      simpa using this
    rw [List.getElem?_range hi] at h1
    cases h1
    show vs.getD i .undef = v
    rw [List.getD_eq_getElem?_getD, h2]
    rfl) x
  rw [List.length_range] at hlen x
  have hdrop : vs.drop np = [] ∧ codeE cl kk (rtE rs fz K) e [] ρ s (rtE rs fz K) = some r := by
    cases hv : vs.drop np with
    | nil => rw [hv] at x; exact ⟨rfl, x⟩
    | cons a l => rw [hv] at x; exact (nn x).elim
  obtain ⟨hd, x⟩ := hdrop
  have hl : vs.length ≤ fn.ntmps := by
    have := congrArg List.length hd
    simp at this
    omega
  obtain ⟨y, fr1, h1, n1, l1, s1, ⟨k1, c1⟩, nx1, hb1, _, ρ1, hf1, q1⟩ := codeE_ok (fr := ⟨initRegs vs, []⟩) hc kk (rtE rs fz K) e3 hj e6 hρ hbx hr x
  have q : rtE rs fz K ρ1 s1 = some r ∧ ∀ i, y ≠ .exit i := by
    cases y with
    | norm => exact ⟨q1, by simp⟩
    | exit i => exact (nn q1).elim
    | ret => exact ⟨q1, by simp⟩
  obtain ⟨q, hy⟩ := q
  obtain ⟨hok, q⟩ := br_t q
  have q : resC rs (mkR fr1.regs) s1 (fun v s => Bool.rec (motive := fun _ => RT) (K v s) (frzN 1000 v s K) fz) = some r := by
    rw [rsE_eq hf1.r hok]
    cases fz <;> exact q
  obtain ⟨ws, l2, s2, e10, nx2, q⟩ := resC_ok (mkR_regs fr1.regs) e4 nx1.rel.bu q
  have hz : ∃ v h2 l3 s3, (if A.fz f then freezeV 1000 (tupled ws) else AM.pure (tupled ws)) h1 n1 = some (v, h2, n1, l3) ∧ Nx s2 h1 n1 l3 s3 h2 n1 ∧ K v s3 = some r := by
    rw [hfz] at q
    cases hfz : A.fz f with
    | false =>
      rw [hfz] at q
      exact ⟨_, h1, ([], []), s2, rfl, Nx.refl nx2.rel, q⟩
    | true =>
      rw [hfz] at q
      exact frzN_ok 1000 _ _ _ _ _ _ nx2.rel q
  obtain ⟨v, h2, l3, s3, e11, nx3, q⟩ := hz
  refine ⟨v, fr1.boxes, h2, n1, _, s3, ⟨k1, fun k hk => ?_⟩, (nx1.trans nx2.ub).trans nx3.ub, ?_, q⟩
  · unfold body
    rw [e1]
    simp only [e2]
    rw [if_neg (by simp [e5]; omega)]
    have inner : (AM.bind (resultsA P fr1.regs fn.results.toList) fun vs => AM.bind (if A.fz f then freezeV 1000 (tupled vs) else AM.pure (tupled vs)) fun v => AM.pure (v, fr1.boxes)) h1 n1 = some ((v, fr1.boxes), h2, n1, (l2.1 ++ l3.1, l2.2 ++ l3.2)) := by
      have := am_bind (g := fun vs => AM.bind (if A.fz f then freezeV 1000 (tupled vs) else AM.pure (tupled vs)) fun v => AM.pure (v, fr1.boxes)) e10 (am_bind (g := fun v => AM.pure (v, fr1.boxes)) (l2 := ([], [])) e11 rfl)
      simpa using this
    rw [List.append_assoc, List.append_assoc]
    refine am_bind (l2 := (l2.1 ++ l3.1, l2.2 ++ l3.2)) (c1 k hk) ?_
    cases y with
    | exit i => exact absurd rfl (hy i)
    | norm => exact inner
    | ret => exact inner
  · rw [nx3.bx, nx2.bx]
    exact hb1

theorem topB_el {n : Nat} : ∀ {H : HL}, topB n H = true → ∀ {m}, H.ok m → H.ok n
  | .nil, _, _, _ => trivial
  | .cons _j _o _t, h, _m, ho => ⟨ble_le h, ho.2⟩

/- a call over the heap -/
theorem withE_ok {code : F2C} {still : Bool} (he : CodeOK P A f code) (hst : still = A.still f) {cl : CL} (hc : CLok P A cl) {kk : Nat} {vs : List AV} {s : HS} {K : AV → HS → RT} {h : Heap} {n : Nat} (hr : Rel s h n) (x : withE code still cl kk vs s K = some r) :
    ∃ v h' n' lg s1, (∃ k0, ∀ k, k0 ≤ k → callO (callN P A k) P A k f vs h n = some (v, h', n', lg)) ∧ Nx s h n lg s1 h' n' ∧ K v s1 = some r := by
  obtain ⟨H, m, bx, thr, rd, wr, mw⟩ := s
  have hm : m = n := hr.num
  subst hm
  replace x : code cl kk vs ⟨H, m, [], thr, rd, wr, m⟩ (fun v s1 => HS.rec (motive := fun _ => RT) (fun h1 n1 bx1 _ rd wr mw1 => ridsC m bx1 h1 fun h2 =>
    Bool.rec (motive := fun _ => RT) (Bool.rec (motive := fun _ => RT) (K v ⟨h2, n1, bx, thr, rd, wr, mw⟩) (Bool.rec (motive := fun _ => RT) (Bool.rec (motive := fun _ => RT) (K v ⟨h2, n1, bx, thr, rd, wr, mw⟩) (K v ⟨H, n1, bx, thr, rd, wr, mw⟩) (treeB v)) (K v ⟨h2, n1, bx, thr, rd, wr, mw⟩) (topB m h2)) still)
      (minC mw mw1 fun mw => K v ⟨h2, n1, bx, thr, rd, wr, mw⟩) (Nat.ble (Nat.succ mw1) m)) s1) = some r := x
  obtain ⟨v, bx1, h1, n1, lg, s1, ⟨k0, hk⟩, nx, hb, x⟩ := he cl hc kk vs ⟨H, m, [], thr, rd, wr, m⟩ _ h m r rfl ⟨hr.look, hr.ok, rfl, Nat.le_refl _, hr.thr⟩ x
  obtain ⟨H1, m1, bx1', thr1, rd1, wr1, mw1⟩ := s1
  have hb : bx1' = bx1 := hb
  subst hb
  have hm1 : m1 = n1 := nx.rel.num
  subst hm1
  replace x : ridsC m bx1' H1 (fun h2 => Bool.rec (motive := fun _ => RT) (Bool.rec (motive := fun _ => RT) (K v ⟨h2, m1, bx, thr, rd1, wr1, mw⟩) (Bool.rec (motive := fun _ => RT) (Bool.rec (motive := fun _ => RT) (K v ⟨h2, m1, bx, thr, rd1, wr1, mw⟩) (K v ⟨H, m1, bx, thr, rd1, wr1, mw⟩) (treeB v)) (K v ⟨h2, m1, bx, thr, rd1, wr1, mw⟩) (topB m h2)) still)
      (minC mw mw1 fun mw => K v ⟨h2, m1, bx, thr, rd1, wr1, mw⟩) (Nat.ble (Nat.succ mw1) m)) = some r := x
  obtain ⟨H2, o1, o2, o3, x⟩ := HL.ids_el nx.rel.ok x
  have hle : m ≤ m1 := nx.le
  have hmw : mw ≤ m := hr.mw
  -- the heap at the end
  have hfree : ∀ i, H2.look i = freeBoxes m m1 h1 bx1' i := by
    intro i
    rw [o2 i]
    unfold freeBoxes
    have hl : H1.look i = h1 i := nx.rel.look i
    by_cases hi : i ∈ bx1'
    · rw [if_pos hi]
      by_cases hi2 : i < m1
      · rw [if_pos ⟨o3 i hi, hi2, by simpa using hi⟩]
      · rw [if_neg (fun hc => hi2 hc.2.1)]
        rw [← hl]
        exact (HL.look_ge nx.rel.ok (by omega)).symm
    · rw [if_neg hi, if_neg (fun hc => hi (by simpa using hc.2.2))]
      exact hl
  have hsame : ∀ i, i < m → i ∉ lg.2 → freeBoxes m m1 h1 bx1' i = h i := by
    intro i hi hw
    unfold freeBoxes
    rw [if_neg (fun hc => absurd hc.1 (by omega))]
    exact nx.frame i hi hw
  let lf : Log := (lg.1.filter (· < m), lg.2.filter (· < m))
  have hrd : ∀ id, id ∈ rd ∨ (id < thr ∧ id ∈ lf.1) → id ∈ rd1 := by
    rintro id (hi | ⟨hl, hi⟩)
    · exact nx.rd id (.inl hi)
    · exact nx.rd id (.inr ⟨hl, (List.mem_filter.1 hi).1⟩)
  have hwr : ∀ id, id ∈ wr ∨ (id < thr ∧ id ∈ lf.2) → id ∈ wr1 := by
    rintro id (hi | ⟨hl, hi⟩)
    · exact nx.wr id (.inl hi)
    · exact nx.wr id (.inr ⟨hl, (List.mem_filter.1 hi).1⟩)
  have hown : ∀ id, id ∈ lf.1 ∨ id ∈ lf.2 → id < m1 := by
    rintro id (hi | hi)
    · exact nx.own id (.inl (List.mem_filter.1 hi).1)
    · exact nx.own id (.inr (List.mem_filter.1 hi).1)
  have hlow : ∀ id ∈ lf.2, id < m := fun id hi => by simpa using (List.mem_filter.1 hi).2
  have hnlow : ∀ id, id < m → id ∉ lf.2 → id ∉ lg.2 := fun id hi hn hc => hn (List.mem_filter.2 ⟨hc, by simpa using hi⟩)
  have plain : ∀ {mw' : Nat}, (∀ id ∈ lf.2, mw' ≤ id) → (mw' = mw ∨ mw' ∈ lf.2) → mw' ≤ mw → Nx ⟨H, m, bx, thr, rd, wr, mw⟩ h m lf ⟨H2, m1, bx, thr, rd1, wr1, mw'⟩ (freeBoxes m m1 h1 bx1') m1 := by
    intro mw' a1 a2 a3
    refine ⟨⟨hfree, o1, rfl, ?_, Nat.le_trans hr.thr hle⟩, hle, rfl, rfl, hrd, hwr, hown, a1, a2, a3, fun i hi hn => hsame i hi (hnlow i hi hn)⟩
    show mw' ≤ m1
    omega
  -- as the machine ends it
  have fin : ∀ {w : AV × Heap × Nat × Log}, finish (A.still f) m h v bx1' h1 m1 lg = w → ∃ k0, ∀ k, k0 ≤ k → callO (callN P A k) P A k f vs h m = some w := by
    intro w hw
    refine ⟨k0, fun k hle => ?_⟩
    unfold callO
    rw [hk k hle]
    simp only [hw]
  have plainF : ¬((A.still f && v.tree && lf.2.isEmpty) = true) → finish (A.still f) m h v bx1' h1 m1 lg = (v, freeBoxes m m1 h1 bx1', m1, lf) := by
    intro hn
    unfold finish
    simp only
    rw [if_neg hn]
  have stillF : (A.still f && v.tree && lf.2.isEmpty) = true → finish (A.still f) m h v bx1' h1 m1 lg = (v, h, m1, (lf.1, [])) := by
    intro hn
    unfold finish
    simp only
    rw [if_pos hn]
  replace x := br_b x
  rcases x with ⟨hw, x⟩ | ⟨hw, x⟩
  · -- nothing older was written
    have hw : ¬ mw1 < m := ble_nle hw
    have hnone : lf.2 = [] := by
      apply List.eq_nil_iff_forall_not_mem.2
      intro id hi
      have h1' : mw1 ≤ id := nx.mw id (List.mem_filter.1 hi).1
      have := hlow id hi
      omega
    have nxp := plain (mw' := mw) (by rw [hnone]; simp) (.inl rfl) (Nat.le_refl _)
    -- the same as before, when all of its own is gone
    have both : H2.ok m → freeBoxes m m1 h1 bx1' = h := by
      intro ho
      funext i
      by_cases hi : i < m
      · exact hsame i hi (hnlow i hi (by rw [hnone]; simp))
      · rw [← hfree i, HL.look_ge ho (by omega)]
        exact (hr.fresh i (by omega)).symm
    replace x := br_b x
    rcases x with ⟨hs, x⟩ | ⟨hs, x⟩
    · refine ⟨v, _, _, _, _, fin (plainF (by rw [← hst, hs]; simp)), nxp, x⟩
    · replace x := br_b x
      rcases x with ⟨ht, x⟩ | ⟨ht, x⟩
      · replace x := br_b x
        rcases x with ⟨hv, x⟩ | ⟨hv, x⟩
        · rw [treeB_eq] at hv
          refine ⟨v, _, _, _, _, fin (plainF (by rw [hv]; simp)), nxp, x⟩
        · rw [treeB_eq] at hv
          refine ⟨v, _, _, _, _, fin (stillF (by rw [← hst, hs, hv, hnone]; rfl)), ?_, x⟩
          exact ⟨⟨hr.look, HL.ok_le hr.ok hle, rfl, Nat.le_trans hmw hle, Nat.le_trans hr.thr hle⟩, hle, rfl, rfl, hrd, by rw [← hnone]; exact hwr, by rw [← hnone]; exact hown, by simp, .inl rfl, Nat.le_refl _, fun _ _ _ => rfl⟩
      · have hok := topB_el ht o1
        have hbth := both hok
        by_cases hcond : (A.still f && v.tree && lf.2.isEmpty) = true
        · refine ⟨v, _, _, _, _, fin (stillF hcond), ?_, x⟩
          have := nxp
          rw [hbth] at this
          have e2 : lf = (lf.1, []) := by rw [← hnone]
          rw [← e2]
          exact this
        · exact ⟨v, _, _, _, _, fin (plainF hcond), nxp, x⟩
  · have hw : mw1 < m := ble_le hw
    have hin : mw1 ∈ lf.2 := by
      rcases nx.mw2 with e1 | e1
      · have e1 : mw1 = m := e1
        omega
      · exact List.mem_filter.2 ⟨e1, by simpa using hw⟩
    rw [minC_eq] at x
    refine ⟨v, _, _, _, _, fin (plainF ?_), plain (mw' := min mw mw1) ?_ ?_ (Nat.min_le_left _ _), x⟩
    · have : lf.2.isEmpty = false := by
        cases hl : lf.2 with
        | nil => rw [hl] at hin; cases hin
        | cons _ _ => rfl
      rw [this]
      simp
    · intro id hi
      exact Nat.le_trans (Nat.min_le_right _ _) (nx.mw id (List.mem_filter.1 hi).1)
    · by_cases hc' : mw ≤ mw1
      · exact .inl (Nat.min_eq_left hc')
      · exact .inr (by rw [Nat.min_eq_right (by omega)]; exact hin)

/- what the model answers by itself -/
theorem idxC_eq (c : Nat) (k : Int → RT) : ∀ (l : List UInt8) (i : Nat), idxC c l i k = k (idxL c l i)
  | [], _ => rfl
  | b :: l, i => by
    show Bool.rec (motive := fun _ => RT) (forceN (Nat.succ i) fun i => idxC c l i k) (k (.ofNat i)) (Nat.beq b.toNat c) = _
    unfold idxL
    cases h : Nat.beq b.toNat c with
    | true => rfl
    | false =>
      show forceN (Nat.succ i) (fun i => idxC c l i k) = k (idxL c l (i + 1))
      rw [forceN_eq]
      exact idxC_eq c k l (i + 1)
theorem end_el {vs : List AV} {k : RT} (e : endE vs k = some r) : vs = [] ∧ k = some r := by
  cases vs with
  | nil => exact ⟨rfl, e⟩
  | cons _ _ => exact (nn e).elim
theorem pop_el {vs : List AV} {k : AV → List AV → RT} (e : pop vs k = some r) : ∃ a l, vs = a :: l ∧ k a l = some r := by
  cases vs with
  | nil => exact (nn e).elim
  | cons a l => exact ⟨a, l, rfl, e⟩
theorem asMap_el {v : AV} {c : Nat → RT} (h : asMap v c = some r) : ∃ i, v = .map i ∧ c i = some r := by cases v <;> first | exact ⟨_, rfl, h⟩ | exact (nn h).elim
theorem extC_ok {e : EK} {vs : List AV} {s : HS} {K : AV → HS → RT} {h : Heap} {n : Nat} (hr : Rel s h n) (x : extC e vs s K = some r) : ∃ v h' n' lg s1, extA e vs h n = some (v, h', n', lg) ∧ Nx s h n lg s1 h' n' ∧ K v s1 = some r := by
  cases e with
  | idx =>
    replace x := pop_el x
    obtain ⟨a, l, rfl, x⟩ := x
    replace x := pop_el x
    obtain ⟨b, l, rfl, x⟩ := x
    replace x := end_el x
    obtain ⟨rfl, x⟩ := x
    replace x := asStr_el x
    obtain ⟨t, rfl, x⟩ := x
    replace x := asInt_el x
    obtain ⟨k, i, rfl, x⟩ := x
    replace x := natOf_el x
    obtain ⟨c, rfl, x⟩ := x
    obtain ⟨hk, x⟩ := br_t x
    have hk : k = .u8 := by
      have := beq_eq hk
      cases k <;> first | rfl | (exact absurd this (by decide))
    subst hk
    rw [idxC_eq] at x
    refine ⟨_, h, n, ([], []), s, ?_, Nx.refl hr, x⟩
    show AM.pure (AV.int .i64 (idxL (((c : Int)).toNat.toUInt8).toNat t 0)) h n = _
    have : (((c : Int)).toNat.toUInt8).toNat = Nat.mod c 256 := by simp; rfl
    rw [this]
    rfl
  | clone =>
    replace x := pop_el x
    obtain ⟨a, l, rfl, x⟩ := x
    replace x := end_el x
    obtain ⟨rfl, x⟩ := x
    replace x := asIfc_el x
    obtain ⟨t, w, rfl, x⟩ := x
    replace x := asMap_el x
    obtain ⟨id, rfl, x⟩ := x
    obtain ⟨o, s1, h1, nx1, x⟩ := mget_el hr x
    cases o with
    | cells cs => exact (nn x).elim
    | map es =>
      replace x : mnew (.map es) s1 (fun id s => K (.ifc t (.map id)) s) = some r := x
      obtain ⟨s2, nx2, x⟩ := mnew_el nx1.rel x
      refine ⟨.ifc t (.map n), _, _, _, s2, ?_, nx1.trans nx2, x⟩
      show AM.bind (AM.get id) _ h n = _
      simp [AM.bind, AM.get, h1, AM.new, AM.pure]

/- a function's entry -/
def MemoOK (P : Program) (A : Ann) (f : Nat) (memo : MC) : Prop := ∀ (r : AV) vs k x, memo vs k x = some r → (∃ v, A.pure f = true ∧ AV.trees vs = true ∧ PureC P A f vs v ∧ k v = some r) ∨ x = some r
def F2ok (P : Program) (A : Ann) (f : Nat) : F2 → Prop
  | .fn code still => CodeOK P A f code ∧ A.pure f = false ∧ still = A.still f
  | .pur code still memo => CodeOK P A f code ∧ A.pure f = true ∧ still = A.still f ∧ MemoOK P A f memo
  | .ext e still => A.ext.lookup f = some e ∧ (∃ fn, P.funcs[f]? = some fn ∧ fn.body = none) ∧ A.pure f = false ∧ still = A.still f

theorem fe2_of {np : Nat} {an : List JJ} {q : List Nat} {e : F2} (h : feQ P A f np an q = some e) : F2ok P A f e := by
  unfold feQ at h
  split at h
  · rename_i fn hfn
    split at h
    · rename_i c rs hc hrs
      split at h
      · rename_i ej l' hj
        split at h
        · rename_i hn
          simp only [Bool.and_eq_true, bne_iff_ne, ne_eq] at hn
          cases hb : fn.body with
          | none => rw [hb] at hc; cases hc
          | some c0 =>
            rw [hb, Option.bind_some] at hc
            have code := fnQ_ok (q := q) (A := A) (fz := A.fz f) hfn hb hc hrs (by simpa using hn.1.1.1) hn.1.1.2 (annJ_ok hj) (ble_le hn.2) (ble_le hn.1.2) rfl
            simp only [Option.some.injEq] at h
            subst h
            cases hp : A.pure f with
            | true => exact ⟨code, hp, rfl, fun _ _ _ _ h => .inr h⟩
            | false => exact ⟨code, hp, rfl⟩
        · cases h
      · cases h
    · cases h
  · cases h
theorem fe2_memo {code : F2C} {still : Bool} {memo : MC} (h : F2ok P A f (.pur code still memo)) {v : AV} (hv : PureC P A f [] v) : F2ok P A f (.pur code still (mVal v)) := by
  refine ⟨h.1, h.2.1, h.2.2.1, fun r vs k x hx => ?_⟩
  cases vs with
  | nil => exact .inl ⟨v, h.2.1, by simp [AV.trees], hv, hx⟩
  | cons a l => exact .inr hx

/- a call -/
theorem callF_ok {e : F2} (he : F2ok P A f e) {cl : CL} (hc : CLok P A cl) {kk : Nat} {vs : List AV} {s : HS} {K : AV → HS → RT} {h : Heap} {n : Nat} (hr : Rel s h n) (x : callF e cl kk vs s K = some r) :
    ∃ v h' n' lg s1, (∃ k0, ∀ k, k0 ≤ k → callN P A k f vs h n = some (v, h', n', lg)) ∧ Nx s h n lg s1 h' n' ∧ K v s1 = some r := by
  have wi : ∀ {code : F2C} {still : Bool}, CodeOK P A f code → still = A.still f → A.pure f = false ∨ AV.trees vs = false → withE code still cl kk vs s K = some r → ∃ v h' n' lg s1, (∃ k0, ∀ k, k0 ≤ k → callN P A k f vs h n = some (v, h', n', lg)) ∧ Nx s h n lg s1 h' n' ∧ K v s1 = some r := by
    intro code still hcode hst hp x
    obtain ⟨v, h', n', lg, s1, ⟨k0, hk⟩, nx, x⟩ := withE_ok hcode hst hc hr x
    refine ⟨v, h', n', lg, s1, ⟨k0 + 1, fun k hle => ?_⟩, nx, x⟩
    obtain ⟨k, rfl⟩ : ∃ i, k = i + 1 := ⟨k - 1, by omega⟩
    unfold callN
    rw [if_neg (by rcases hp with hp | hp <;> rw [hp] <;> simp)]
    exact hk k (by omega)
  cases e with
  | fn code still => exact wi he.1 he.2.2 (.inl he.2.1) x
  | pur code still memo =>
    obtain ⟨hcode, hpure, hst, hmemo⟩ := he
    replace x : memo vs (fun v => K v s) (Bool.rec (motive := fun _ => RT) (withE code still cl kk vs s K) (aloneE code cl kk vs s K) (treesB vs)) = some r := x
    rcases hmemo _ _ _ _ x with ⟨v, p1, p2, p3, x⟩ | x
    · obtain ⟨k0, n0, hv⟩ := p3 h n hr.fresh
      refine ⟨v, h, n, ([], []), s, ⟨k0, fun k hk => ?_⟩, Nx.refl hr, x⟩
      cases k0 with
      | zero => cases hv
      | succ k1 =>
        have hn : n0 = n := by
          unfold callN at hv
          rw [if_pos (by rw [p1, p2]; rfl)] at hv
          exact (alone_some hv).2.1
        subst hn
        exact le_callN hk f vs _ _ _ hv
    · rcases br_b x with ⟨ht, x⟩ | ⟨ht, x⟩
      · rw [treesB_eq] at ht
        exact wi hcode hst (.inr ht) x
      · rw [treesB_eq] at ht
        replace x : code cl kk vs hs0 (fun v _ => Bool.rec (motive := fun _ => RT) none (K v s) (treeB v)) = some r := x
        obtain ⟨v, bx1, h1, n1, lg, s1, ⟨k0, hk⟩, nx, hb, x⟩ := hcode cl hc kk vs hs0 _ (fun _ => none) 0 r rfl ⟨fun _ => rfl, trivial, rfl, Nat.le_refl _, Nat.le_refl _⟩ x
        obtain ⟨hv, x⟩ := br_t x
        rw [treeB_eq] at hv
        refine ⟨v, h, n, ([], []), s, ⟨k0 + 1, fun k hle => ?_⟩, Nx.refl hr, x⟩
        obtain ⟨k, rfl⟩ : ∃ i, k = i + 1 := ⟨k - 1, by omega⟩
        unfold callN
        rw [if_pos (by rw [hpure, ht]; rfl)]
        have : ∃ w, callO (callN P A k) P A k f vs (fun _ => none) 0 = some (v, w) := by
          unfold callO
          rw [hk k (by omega)]
          unfold finish
          simp only
          split <;> exact ⟨_, rfl⟩
        obtain ⟨⟨a, b, c⟩, hw⟩ := this
        exact alone_of hv hw h n
  | ext e still =>
    obtain ⟨hl, ⟨fn, hfn, hbd⟩, hpure, hst⟩ := he
    refine wi (code := fun _ _ vs s K => extC e vs s K) ?_ hst (.inl hpure) x
    intro cl hc kk vs s K h n r hbx hr x
    obtain ⟨v, h', n', lg, s1, h1, nx, x⟩ := extC_ok hr x
    refine ⟨v, [], h', n', lg, s1, ⟨0, fun k _ => ?_⟩, nx.ub, by rw [nx.bx]; exact hbx, x⟩
    unfold body
    rw [hfn]
    simp only [hbd, hl]
    have := am_bind (g := fun v => AM.pure (v, ([] : List Nat))) (l2 := ([], [])) h1 rfl
    simpa using this

/- all functions of a table -/
def TBok2 (P : Program) (A : Ann) (T : TB2) : Prop := ∀ (r : AV) g k, get4E (toD4 g) T k = some r → ∃ e, F2ok P A g e ∧ k e = some r

theorem callE_ok {T : TB2} (hT : TBok2 P A T) : ∀ k, CLok P A (callE T k)
  | 0 => ⟨fun r g vs s K h n hr e => (nn e).elim, fun r vs s K e => (nn e).elim⟩
  | k + 1 => ⟨fun r g vs s K h n hr x => by
    replace x : remQ (toD4 g) vs s K (get4E (toD4 g) T fun e => callF e (callE T k) k vs s K) = some r := x
    have x : get4E (toD4 g) T (fun e => callF e (callE T k) k vs s K) = some r := by
      unfold toD4 at x ⊢
      cases hb : Nat.ble g 4095 <;> (rw [hb] at x; exact x)
    obtain ⟨e, he, x⟩ := hT _ _ _ x
    exact callF_ok he (callE_ok hT k) hr x, fun r vs s K x => x⟩

theorem runE_ok {T : TB2} (hT : TBok2 P A T) {k g : Nat} {vs : List AV} {v : AV} (x : runE k T g vs = some v) : ∃ k h' n' lg, callN P A k g vs (fun _ => none) 0 = some (v, h', n', lg) := by
  obtain ⟨w, h', n', lg, s1, ⟨k0, hk⟩, _, e⟩ := (callE_ok hT k).1 _ g vs hs0 (fun v _ => some v) (fun _ => none) 0 ⟨fun _ => rfl, trivial, rfl, Nat.le_refl _, Nat.le_refl _⟩ x
  have : w = v := by simpa using e
  subst this
  exact ⟨k0, h', n', lg, hk k0 (Nat.le_refl _)⟩
theorem runE_pure {T : TB2} (hT : TBok2 P A T) {k g : Nat} {vs : List AV} {v : AV} (hp : A.pure g = true) (ht : AV.trees vs = true) (x : runE k T g vs = some v) : PureC P A g vs v := by
  obtain ⟨k, h', n', lg, e⟩ := runE_ok hT x
  exact pure_eval k hp ht (by unfold hp0; rw [e]; rfl)

/- tables, piece by piece -/
def Ok2 (P : Program) (A : Ann) (i : Nat) : Option F2 → Prop
  | none => True
  | some e => F2ok P A i e
structure L8 {β : Type} (p : Nat → β → Prop) (T : N8 β) : Prop where
  c0 : p 0 T.c0
  c1 : p 1 T.c1
  c2 : p 2 T.c2
  c3 : p 3 T.c3
  c4 : p 4 T.c4
  c5 : p 5 T.c5
  c6 : p 6 T.c6
  c7 : p 7 T.c7
theorem L8.at {β : Type} {p : Nat → β → Prop} {T : N8 β} (h : L8 p T) : ∀ d, d < 8 → p d (sel d T) := by
  intro d hd
  obtain rfl | rfl | rfl | rfl | rfl | rfl | rfl | rfl : d = 0 ∨ d = 1 ∨ d = 2 ∨ d = 3 ∨ d = 4 ∨ d = 5 ∨ d = 6 ∨ d = 7 := by omega
  · exact h.c0
  · exact h.c1
  · exact h.c2
  · exact h.c3
  · exact h.c4
  · exact h.c5
  · exact h.c6
  · exact h.c7
def Lf (P : Program) (A : Ann) (b : Nat) (T : N8 (Option F2)) : Prop := L8 (fun d => Ok2 P A (b + d)) T
def Lg (P : Program) (A : Ann) (b : Nat) (T : N8 (N8 (Option F2))) : Prop := L8 (fun d => Lf P A (b + 8 * d)) T
def Lh (P : Program) (A : Ann) (b : Nat) (T : N8 (N8 (N8 (Option F2)))) : Prop := L8 (fun d => Lg P A (b + 64 * d)) T
def Li (P : Program) (A : Ann) (T : TB2) : Prop := L8 (fun d => Lh P A (512 * d)) T

theorem dg_s {β : Type} (d : Nat) (hd : d < 8) (T : N8 β) (k : β → RT) : (dg d).s T k = k (sel d T) := by
  obtain rfl | rfl | rfl | rfl | rfl | rfl | rfl | rfl : d = 0 ∨ d = 1 ∨ d = 2 ∨ d = 3 ∨ d = 4 ∨ d = 5 ∨ d = 6 ∨ d = 7 := by omega
  all_goals rfl

theorem tb2_ok {T : TB2} (h : Li P A T) : TBok2 P A T := by
  intro r g k x
  unfold toD4 at x
  cases hg : Nat.ble g 4095 with
  | false => rw [hg] at x; exact (nn x).elim
  | true =>
    have hle := ble_le hg
    rw [hg] at x
    replace x : (dg (g / 512)).s T (fun T => (dg (g / 64 % 8)).s T fun T => (dg (g / 8 % 8)).s T fun T => (dg (g % 8)).s T (orN k)) = some r := x
    rw [dg_s _ (by omega), dg_s _ (by omega), dg_s _ (by omega), dg_s _ (by omega)] at x
    have h1 := h.at (g / 512) (by omega)
    have h2 := L8.at h1 (g / 64 % 8) (by omega)
    have h3 := L8.at h2 (g / 8 % 8) (by omega)
    have h4 := L8.at h3 (g % 8) (by omega)
    have hi : 512 * (g / 512) + 64 * (g / 64 % 8) + 8 * (g / 8 % 8) + g % 8 = g := by omega
    rw [hi] at h4
    generalize sel (g % 8) (sel (g / 8 % 8) (sel (g / 64 % 8) (sel (g / 512) T))) = o at x h4
    cases o with
    | none => exact (nn x).elim
    | some e => exact ⟨e, h4, x⟩
end
end Go.Abs
