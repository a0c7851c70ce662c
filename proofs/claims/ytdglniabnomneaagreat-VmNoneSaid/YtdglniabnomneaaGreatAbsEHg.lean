/- The quick evaluator is sound: code and calls. -/
import Derived.Test.YtdglniabnomneaaGreatAbsEHf
namespace Go.Abs

/- where a run goes on -/
def Cont (Kn : RG → HS → RT) (Kx : KX) (x : AX) (R : RG) (s : HS) (r : AV) : Prop := match x with
  | .norm => Kn R s = some r
  | x => Kx x R s = some r

section
variable {P : Program} {A : Ann} {f nt : Nat} {r : AV}

def COut (P : Program) (A : Ann) (f nt : Nat) (c0 : Code) (fr : Fr) (s : HS) (h : Heap) (n : Nat) (Q : AX → RG → HS → Prop) : Prop :=
  ∃ x fr' h' n' lg R' s', (∃ k0, ∀ k, k0 ≤ k → exec (callN P A k) P A f nt k c0 fr h n = some ((x, fr'), h', n', lg)) ∧ Nx (unb s) h n lg (unb s') h' n' ∧ FrR R' s' fr' ∧ Q x R' s'

theorem code_ok {cl : CL} (hc : CLok P A cl) (kk : Nat) : ∀ {c0 : Code} {c : EC} {r : AV} {R : RG} {s : HS} {Kn : RG → HS → RT} {Kx : KX} {fr : Fr} {h : Heap} {n : Nat}, ecC P A f c0 = some c → dok nt c = true → FrR R s fr → Rel s h n → codeC c cl kk R s Kn Kx = some r →
    COut P A f nt c0 fr s h n fun x R s => Cont Kn Kx x R s r
  | .skip, c, r, R, s, Kn, Kx, fr, h, n, hcc, hd, hf, hr, e => by
    simp only [ecC, Option.some.injEq] at hcc
    subst hcc
    exact ⟨.norm, fr, h, n, ([], []), R, s, ⟨0, fun k _ => rfl⟩, Nx.refl hr.ub, hf, e⟩
  | .exit i, c, r, R, s, Kn, Kx, fr, h, n, hcc, hd, hf, hr, e => by
    simp only [ecC, Option.some.injEq] at hcc
    subst hcc
    exact ⟨.exit i, fr, h, n, ([], []), R, s, ⟨0, fun k _ => rfl⟩, Nx.refl hr.ub, hf, e⟩
  | .ret, c, r, R, s, Kn, Kx, fr, h, n, hcc, hd, hf, hr, e => by
    simp only [ecC, Option.some.injEq] at hcc
    subst hcc
    exact ⟨.ret, fr, h, n, ([], []), R, s, ⟨0, fun k _ => rfl⟩, Nx.refl hr.ub, hf, e⟩
  | .region i ops dr, c, r, R, s, Kn, Kx, fr, h, n, hcc, hd, hf, hr, e => by
    simp only [ecC] at hcc
    obtain ⟨l, hl, rfl⟩ := omap hcc
    obtain ⟨fr', h', n', lg, R', s', ⟨k0, hk⟩, nx, hf', e⟩ := reg_ok (dr := dr) (i := i) (cl := cl) (kk := kk) hc hl hd hf hr e
    exact ⟨.norm, fr', h', n', lg, R', s', ⟨k0, fun k hle => hk k hle k⟩, nx, hf', e⟩
  | .seq a0 b0, c, r, R, s, Kn, Kx, fr, h, n, hcc, hd, hf, hr, e => by
    simp only [ecC] at hcc
    split at hcc
    · rename_i a b ha hb
      simp only [Option.some.injEq] at hcc
      subst hcc
      simp only [dok, Bool.and_eq_true] at hd
      replace e : codeC a cl kk R s (fun R s => codeC b cl kk R s Kn Kx) Kx = some r := e
      obtain ⟨x, fr1, h1, n1, l1, R1, s1, ⟨k1, c1⟩, nx1, hf1, q1⟩ := code_ok hc kk ha hd.1 hf hr e
      cases x with
      | norm =>
        have e : codeC b cl kk R1 s1 Kn Kx = some r := q1
        obtain ⟨y, fr2, h2, n2, l2, R2, s2, ⟨k2, c2⟩, nx2, hf2, q2⟩ := code_ok hc kk hb hd.2 hf1 nx1.rel.bu e
        refine ⟨y, fr2, h2, n2, _, R2, s2, ⟨max k1 k2, fun k hk => ?_⟩, nx1.trans nx2, hf2, q2⟩
        simp only [exec]
        exact am_bind (c1 k (by omega)) (c2 k (by omega))
      | exit i =>
        refine ⟨.exit i, fr1, h1, n1, _, R1, s1, ⟨k1, fun k hk => ?_⟩, nx1.trans (Nx.refl nx1.rel), hf1, q1⟩
        simp only [exec]
        exact am_bind (l2 := ([], [])) (c1 k hk) rfl
      | ret =>
        refine ⟨.ret, fr1, h1, n1, _, R1, s1, ⟨k1, fun k hk => ?_⟩, nx1.trans (Nx.refl nx1.rel), hf1, q1⟩
        simp only [exec]
        exact am_bind (l2 := ([], [])) (c1 k hk) rfl
    · cases hcc
  | .cond c0 a0 b0, c, r, R, s, Kn, Kx, fr, h, n, hcc, hd, hf, hr, e => by
    simp only [ecC] at hcc
    split at hcc
    · rename_i x a b hx ha hb
      simp only [Option.some.injEq] at hcc
      subst hcc
      simp only [dok, Bool.and_eq_true] at hd
      replace e : evC x R (fun v => asBool v fun c => Bool.rec (motive := fun _ => RT) (codeC b cl kk R s Kn Kx) (codeC a cl kk R s Kn Kx) c) = some r := e
      replace e := evC_el e
      obtain ⟨v, hv, e⟩ := e
      replace e := asBool_el e
      obtain ⟨p, rfl, e⟩ := e
      have he : evalA A fr.regs c0 = some (.bool p) := ev_sound hf.1.sat hx hv
      replace e := br_b e
      rcases e with ⟨rfl, e⟩ | ⟨rfl, e⟩
      · obtain ⟨y, fr1, h1, n1, l1, R1, s1, ⟨k1, c1⟩, nx1, hf1, q1⟩ := code_ok hc kk hb hd.2 hf hr e
        refine ⟨y, fr1, h1, n1, l1, R1, s1, ⟨k1, fun k hk => ?_⟩, nx1, hf1, q1⟩
        simp only [exec, he]
        exact c1 k hk
      · obtain ⟨y, fr1, h1, n1, l1, R1, s1, ⟨k1, c1⟩, nx1, hf1, q1⟩ := code_ok hc kk ha hd.1 hf hr e
        refine ⟨y, fr1, h1, n1, l1, R1, s1, ⟨k1, fun k hk => ?_⟩, nx1, hf1, q1⟩
        simp only [exec, he]
        exact c1 k hk
    · cases hcc
  | .block id b0, c, r, R, s, Kn, Kx, fr, h, n, hcc, hd, hf, hr, e => by
    simp only [ecC] at hcc
    obtain ⟨b, hb, rfl⟩ := omap hcc
    replace e : codeC b cl kk R s Kn (exitC id Kn Kx) = some r := e
    obtain ⟨x, fr1, h1, n1, l1, R1, s1, ⟨k1, c1⟩, nx1, hf1, q1⟩ := code_ok hc kk hb hd hf hr e
    have fin : ∀ {y}, y = (if x = .exit id then .norm else x) → Cont Kn Kx y R1 s1 r → COut P A f nt (.block id b0) fr s h n fun x R s => Cont Kn Kx x R s r := by
      intro y hy q
      refine ⟨y, fr1, h1, n1, _, R1, s1, ⟨k1, fun k hk => ?_⟩, nx1.trans (Nx.refl nx1.rel), hf1, q⟩
      simp only [exec]
      refine am_bind (l2 := ([], [])) (c1 k hk) ?_
      rw [hy]
      rfl
    cases x with
    | norm => exact fin (y := .norm) (by simp) q1
    | exit j =>
      have q : Bool.rec (motive := fun _ => RT) (Kx (.exit j) R1 s1) (Kn R1 s1) (Nat.beq j id) = some r := q1
      clear q1
      replace q := br_b q
      rcases q with ⟨hj, q⟩ | ⟨hj, q⟩
      · have := beq_ne hj
        exact fin (y := .exit j) (by rw [if_neg (by simpa using this)]) q
      · have := beq_eq hj
        subst this
        exact fin (y := .norm) (by simp) q
    | ret => exact fin (y := .ret) (by simp) q1
  | .loop b0, c, r, R, s, Kn, Kx, fr, h, n, hcc, hd, hf, hr, e => by
    simp only [ecC] at hcc
    obtain ⟨b, hb, rfl⟩ := omap hcc
    have loop : ∀ (m : Nat) {R : RG} {s : HS} {fr : Fr} {h : Heap} {n : Nat}, FrR R s fr → Rel s h n → loopC m (codeC b cl kk) R s Kx = some r →
        ∃ x fr' h' n' lg R' s', (∃ k0, ∀ k, k0 ≤ k → ∀ j, m ≤ j → loopN (fun fr => exec (callN P A k) P A f nt k b0 fr) j fr h n = some ((x, fr'), h', n', lg)) ∧ Nx (unb s) h n lg (unb s') h' n' ∧ FrR R' s' fr' ∧ Cont Kn Kx x R' s' r := by
      intro m
      induction m with
      | zero => intro R s fr h n _ _ e; exact (nn e).elim
      | succ m ih =>
        intro R s fr h n hf hr e
        replace e : codeC b cl kk R s (fun R s => loopC m (codeC b cl kk) R s Kx) Kx = some r := e
        obtain ⟨x, fr1, h1, n1, l1, R1, s1, ⟨k1, c1⟩, nx1, hf1, q1⟩ := code_ok hc kk hb hd hf hr e
        cases x with
        | norm =>
          obtain ⟨y, fr2, h2, n2, l2, R2, s2, ⟨k2, c2⟩, nx2, hf2, q2⟩ := ih hf1 nx1.rel.bu q1
          refine ⟨y, fr2, h2, n2, _, R2, s2, ⟨max k1 k2, fun k hk j hj => ?_⟩, nx1.trans nx2, hf2, q2⟩
          obtain ⟨j, rfl⟩ : ∃ i, j = i + 1 := ⟨j - 1, by omega⟩
          unfold loopN
          exact am_bind (c1 k (by omega)) (c2 k (by omega) j (by omega))
        | exit i =>
          refine ⟨.exit i, fr1, h1, n1, _, R1, s1, ⟨k1, fun k hk j hj => ?_⟩, nx1.trans (Nx.refl nx1.rel), hf1, q1⟩
          obtain ⟨j, rfl⟩ : ∃ i, j = i + 1 := ⟨j - 1, by omega⟩
          unfold loopN
          exact am_bind (l2 := ([], [])) (c1 k (by omega)) rfl
        | ret =>
          refine ⟨.ret, fr1, h1, n1, _, R1, s1, ⟨k1, fun k hk j hj => ?_⟩, nx1.trans (Nx.refl nx1.rel), hf1, q1⟩
          obtain ⟨j, rfl⟩ : ∃ i, j = i + 1 := ⟨j - 1, by omega⟩
          unfold loopN
          exact am_bind (l2 := ([], [])) (c1 k (by omega)) rfl
    obtain ⟨x, fr1, h1, n1, l1, R1, s1, ⟨k1, c1⟩, nx1, hf1, q1⟩ := loop kk hf hr e
    refine ⟨x, fr1, h1, n1, l1, R1, s1, ⟨max k1 kk, fun k hk => ?_⟩, nx1, hf1, q1⟩
    simp only [exec]
    exact c1 k (by omega) k (by omega)
  | .rangeFunc _ _ _ _, _, _, _, _, _, _, _, _, _, hcc, _, _, _, _ => by simp [ecC] at hcc
  | .scope _, _, _, _, _, _, _, _, _, _, hcc, _, _, _, _ => by simp [ecC] at hcc
  | .label _, _, _, _, _, _, _, _, _, _, hcc, _, _, _, _ => by simp [ecC] at hcc
  | .goto _, _, _, _, _, _, _, _, _, _, hcc, _, _, _, _ => by simp [ecC] at hcc

/- results -/
theorem resX_ok {x : RSv} {v0 : ResultVar} {R : RG} {s : HS} {K : AV → HS → RT} {rg : Nat → AV} {h : Heap} {n : Nat} (hs : Regs R rg) (hr : Rel s h n) (e : resX x R s K = some r)
    (hx : (∃ t, x = .t t ∧ v0 = .tmp t) ∨ ∃ a t m, x = .c a m ∧ v0 = .cell a t ∧ cellsN P t = some m) :
    ∃ v lg s1, (∀ (l : List ResultVar) (vs : List AV) (h' : Heap) (n' : Nat) (l2 : Log), resultsA P rg l h n = some (vs, h', n', l2) → h' = h → n' = n → resultsA P rg (v0 :: l) h n = some (v :: vs, h, n, (lg.1 ++ l2.1, lg.2 ++ l2.2))) ∧ Nx s h n lg s1 h n ∧ K v s1 = some r := by
  rcases hx with ⟨t, rfl, rfl⟩ | ⟨a, t, m, rfl, rfl, hm⟩
  · replace e : xT t R (fun v => K v s) = some r := e
    obtain ⟨e1, e⟩ := xT_el e
    refine ⟨_, ([], []), s, ?_, Nx.refl hr, e⟩
    rintro l vs h' n' l2 hl rfl rfl
    simp only [resultsA]
    unfold AM.bind
    rw [hl]
    simp [AM.pure, hs.sat _ _ e1]
  · replace e : xT a R (fun p => ldA p (takeC m) s K) = some r := e
    obtain ⟨e1, e⟩ := xT_el e
    obtain ⟨v, lg, s1, h1, nx, e⟩ := ldA_el hm hr e
    refine ⟨v, lg, s1, ?_, nx, e⟩
    rintro l vs h' n' l2 hl rfl rfl
    simp only [resultsA]
    rw [← hs.sat _ _ e1] at h1
    have := am_bind (g := fun v => AM.bind (resultsA P rg l) fun vs => AM.pure (v :: vs)) h1 (am_bind (g := fun vs => AM.pure (v :: vs)) (l2 := ([], [])) hl rfl)
    simpa using this
theorem rsOf_cons {v0 : ResultVar} {l : List ResultVar} {rs : List RSv} (h : rsOf P (v0 :: l) = some rs) : ∃ x rs', rs = x :: rs' ∧ rsOf P l = some rs' ∧ ((∃ t, x = .t t ∧ v0 = .tmp t) ∨ ∃ a t m, x = .c a m ∧ v0 = .cell a t ∧ cellsN P t = some m) := by
  cases v0 with
  | tmp t =>
    simp only [rsOf] at h
    obtain ⟨r', h1, rfl⟩ := omap h
    exact ⟨.t t, r', rfl, h1, .inl ⟨t, rfl, rfl⟩⟩
  | cell a t =>
    simp only [rsOf] at h
    split at h
    · rename_i m r' h1 h2
      simp only [Option.some.injEq] at h
      exact ⟨.c a m, r', h.symm, h2, .inr ⟨a, t, m, rfl, rfl, h1⟩⟩
    · cases h
theorem resQ_ok {R : RG} {rg : Nat → AV} (hs : Regs R rg) : ∀ {l : List ResultVar} {rs : List RSv} {s : HS} {K : List AV → HS → RT} {h : Heap} {n : Nat}, rsOf P l = some rs → Rel s h n → resQ rs R s K = some r →
    ∃ vs lg s1, (∃ l2, resultsA P rg l h n = some (vs, h, n, l2) ∧ lg = l2) ∧ Nx s h n lg s1 h n ∧ vs.length = l.length ∧ K vs s1 = some r
  | [], rs, s, K, h, n, hl, hr, e => by
    simp only [rsOf, Option.some.injEq] at hl
    subst hl
    exact ⟨[], _, s, ⟨_, rfl, rfl⟩, Nx.refl hr, rfl, e⟩
  | v0 :: l, rs, s, K, h, n, hl, hr, e => by
    obtain ⟨x, rs', rfl, h1, hx⟩ := rsOf_cons hl
    replace e : resX x R s (fun v s => resQ rs' R s fun vs s => K (v :: vs) s) = some r := e
    obtain ⟨v, lg, s1, h2, nx, e⟩ := resX_ok hs hr e hx
    obtain ⟨vs, l2, s2, ⟨l3, h3, rfl⟩, nx2, hlen, e⟩ := resQ_ok hs h1 nx.rel e
    exact ⟨v :: vs, _, s2, ⟨_, h2 l vs h n l2 h3 rfl rfl, rfl⟩, nx.trans nx2, by simp [hlen], e⟩
theorem resC_ok {R : RG} {rg : Nat → AV} (hs : Regs R rg) {l : List ResultVar} {rs : List RSv} {s : HS} {K : AV → HS → RT} {h : Heap} {n : Nat} (hl : rsOf P l = some rs) (hr : Rel s h n) (e : resC rs R s K = some r) :
    ∃ vs lg s1, resultsA P rg l h n = some (vs, h, n, lg) ∧ Nx s h n lg s1 h n ∧ K (tupled vs) s1 = some r := by
  cases l with
  | nil =>
    simp only [rsOf, Option.some.injEq] at hl
    subst hl
    exact ⟨[], ([], []), s, rfl, Nx.refl hr, e⟩
  | cons v0 l =>
    obtain ⟨x, rs', rfl, h1, hx⟩ := rsOf_cons hl
    cases l with
    | nil =>
      simp only [rsOf, Option.some.injEq] at h1
      subst h1
      replace e : resX x R s K = some r := e
      obtain ⟨v, lg, s1, h2, nx, e⟩ := resX_ok hs hr e hx
      have := h2 [] [] h n ([], []) rfl rfl rfl
      exact ⟨[v], lg, s1, by simpa using this, nx, e⟩
    | cons v1 l =>
      obtain ⟨y, rs2, rfl, h2, hy⟩ := rsOf_cons h1
      replace e : resQ (x :: y :: rs2) R s (fun vs s => K (.tup vs) s) = some r := e
      obtain ⟨vs, lg, s1, ⟨l2, h3, rfl⟩, nx, hlen, e⟩ := resQ_ok hs hl hr e
      refine ⟨vs, lg, s1, h3, nx, ?_⟩
      match vs, hlen with
      | a :: b :: vs, _ => exact e

/- freezing -/
def FrzOk (g : AV → HC AV) (m : AV → AM AV) : Prop := ∀ (r v : AV) (s : HS) (h : Heap) (n : Nat) (K : AV → HS → RT), Rel s h n → g v s K = some r → ∃ w h' lg s1, m v h n = some (w, h', n, lg) ∧ Nx s h n lg s1 h' n ∧ K w s1 = some r
theorem frzW_ok {g : AV → HC AV} {m : AV → AM AV} (hg : FrzOk g m) :
    ∀ {l : List AV} {s : HS} {h : Heap} {n : Nat} {K : List AV → HS → RT}, Rel s h n → frzW g l s K = some r → ∃ ws h' lg s1, freezeW m l h n = some (ws, h', n, lg) ∧ Nx s h n lg s1 h' n ∧ K ws s1 = some r
  | [], s, h, n, K, hr, e => ⟨[], h, ([], []), s, rfl, Nx.refl hr, e⟩
  | v :: l, s, h, n, K, hr, e => by
    replace e : g v s (fun v s => frzW g l s fun r s => K (v :: r) s) = some r := e
    obtain ⟨w, h1, l1, s1, e1, nx1, e⟩ := hg _ _ _ _ _ _ hr e
    obtain ⟨ws, h2, l2, s2, e2, nx2, e⟩ := frzW_ok hg nx1.rel e
    refine ⟨w :: ws, h2, _, s2, ?_, nx1.trans nx2, e⟩
    simp only [freezeW]
    have := am_bind (g := fun v => AM.bind (freezeW m l) fun r => AM.pure (v :: r)) e1 (am_bind (g := fun r => AM.pure (w :: r)) (l2 := ([], [])) e2 rfl)
    simpa using this
theorem frzN_ok : ∀ (k : Nat), FrzOk (frzN k) (freezeV k)
  | 0 => fun _ _ _ _ _ _ _ e => (nn e).elim
  | k + 1 => fun r v s h n K hr e => by
    cases v with
    | sl id off len sz =>
      replace e : mcells id s (fun cs s => sliC cs off (Nat.mul len sz) fun cs => mkill id s fun _ s => frzW (frzN k) cs s fun cs s => K (.tsl cs len) s) = some r := e
      obtain ⟨cs, s1, h1, nx1, e⟩ := mcells_el hr e
      obtain ⟨l, h3, e⟩ := sliC_el e
      obtain ⟨s2, h2, nx2, e⟩ := mkill_el nx1.rel e
      obtain ⟨ws, h4, l4, s3, e4, nx3, e⟩ := frzW_ok (frzN_ok k) nx2.rel e
      have h3 : sliceL cs off (len * sz) = some l := h3
      refine ⟨_, _, _, s3, ?_, (nx1.trans nx2).trans nx3, e⟩
      simp [freezeV, AM.bind, AM.get, h1, AM.lift, h3, AM.kill, AM.pure, e4]
    | agg l =>
      replace e : frzW (frzN k) l s (fun cs s => K (.agg cs) s) = some r := e
      obtain ⟨ws, h4, l4, s3, e4, nx3, e⟩ := frzW_ok (frzN_ok k) hr e
      refine ⟨_, _, _, s3, ?_, nx3, e⟩
      simp [freezeV, AM.bind, AM.pure, e4]
    | tup l =>
      replace e : frzW (frzN k) l s (fun cs s => K (.tup cs) s) = some r := e
      obtain ⟨ws, h4, l4, s3, e4, nx3, e⟩ := frzW_ok (frzN_ok k) hr e
      refine ⟨_, _, _, s3, ?_, nx3, e⟩
      simp [freezeV, AM.bind, AM.pure, e4]
    | _ => exact ⟨_, h, ([], []), s, rfl, Nx.refl hr, e⟩

/- arguments -/
theorem popA_eq (l : List AV) (k : AV → List AV → RT) : popA l k = k (l.getD 0 .undef) (l.drop 1) := by cases l <;> rfl
theorem sel_un1 (d : Nat) : sel d un1 = AV.undef := match d with
  | 0 | 1 | 2 | 3 | 4 | 5 | 6 | n + 7 => rfl
theorem sel_un2 (d : Nat) : sel d un2 = un1 := match d with
  | 0 | 1 | 2 | 3 | 4 | 5 | 6 | n + 7 => rfl
theorem sel_head {β : Type} (d : Nat) (x y : β) : sel d (⟨x, y, y, y, y, y, y, y⟩ : N8 β) = if d = 0 then x else y := match d with
  | 0 | 1 | 2 | 3 | 4 | 5 | 6 | n + 7 => rfl
theorem sel_list (d : Nat) (l : List AV) (hd : d < 8) : sel d (⟨l.getD 0 .undef, l.getD 1 .undef, l.getD 2 .undef, l.getD 3 .undef, l.getD 4 .undef, l.getD 5 .undef, l.getD 6 .undef, l.getD 7 .undef⟩ : N8 AV) = l.getD d .undef := by
  obtain rfl | rfl | rfl | rfl | rfl | rfl | rfl | rfl : d = 0 ∨ d = 1 ∨ d = 2 ∨ d = 3 ∨ d = 4 ∨ d = 5 ∨ d = 6 ∨ d = 7 := by omega
  all_goals rfl
theorem args_ok {l : List AV} {k : RG → RT} (e : argsC l k = some r) : ∃ R, Regs R (initRegs l) ∧ k R = some r := by
  unfold argsC at e
  simp only [popA_eq, List.drop_drop] at e
  have hd : ∀ i j, (l.drop i).getD j AV.undef = l.getD (i + j) AV.undef := by
    intro i j
    rw [List.getD_eq_getElem?_getD, List.getD_eq_getElem?_getD, List.getElem?_drop]
  simp only [hd] at e
  cases hl : l.drop (1 + 1 + 1 + 1 + 1 + 1 + 1 + 1) with
  | cons a t =>
    simp only [Nat.reduceAdd] at hl e
    rw [hl] at e
    exact (nn e).elim
  | nil =>
    have hlen : l.length ≤ 8 := by
      have := congrArg List.length hl
      simp at this
      omega
    simp only [Nat.reduceAdd] at hl e
    rw [hl] at e
    refine ⟨_, ?_, e⟩
    intro t ht
    show l.getD t .undef = _
    unfold lookT
    rw [sel_head]
    by_cases h1 : t / 64 = 0
    · rw [if_pos h1, sel_head]
      by_cases h2 : t / 8 % 8 = 0
      · rw [if_pos h2]
        have e8 : t % 8 = t := by omega
        rw [e8]
        exact (sel_list t l (by omega)).symm
      · rw [if_neg h2, sel_un1, List.getD_eq_getElem?_getD, List.getElem?_eq_none (by omega)]
        rfl
    · rw [if_neg h1, sel_un2, sel_un1, List.getD_eq_getElem?_getD, List.getElem?_eq_none (by omega)]
      rfl

/- a function's entry -/
structure FEok (P : Program) (A : Ann) (f : Nat) (e : FE) : Prop where
  ex : ∃ fn c0 c rs, P.funcs[f]? = some fn ∧ fn.body = some c0 ∧ ecC P A f c0 = some c ∧ rsOf P fn.results.toList = some rs ∧ (fn.name == "runtime.NumGoroutine") = false ∧ dok fn.ntmps c = true ∧ e.code = codeC c ∧ e.res = resC rs ∧ e.nt = fn.ntmps
  fz : e.fz = A.fz f
  pure : e.pure = A.pure f
  still : e.still = A.still f
  memo : ∀ (r : AV) vs k x, e.memo vs k x = some r → (∃ v, A.pure f = true ∧ AV.trees vs = true ∧ PureC P A f vs v ∧ k v = some r) ∨ x = some r

theorem feok_of {e : FE} (h : feOf P A f = some e) : FEok P A f e := by
  unfold feOf at h
  split at h
  · rename_i fn hfn
    split at h
    · rename_i c rs hc hrs
      split at h
      · rename_i hn
        simp only [Option.some.injEq] at h
        subst h
        simp only [Bool.and_eq_true, bne_iff_ne, ne_eq] at hn
        cases hb : fn.body with
        | none => rw [hb] at hc; cases hc
        | some c0 =>
          rw [hb, Option.bind_some] at hc
          exact ⟨⟨fn, c0, c, rs, hfn, hb, hc, hrs, by simpa using hn.1, hn.2, rfl, rfl, rfl⟩, rfl, rfl, rfl, fun r vs k x hx => .inr hx⟩
      · cases h
    · cases h
  · cases h
theorem feok_memo {e : FE} (h : FEok P A f e) {v : AV} (hp : A.pure f = true) (hv : PureC P A f [] v) : FEok P A f ⟨e.code, e.res, e.nt, e.fz, e.pure, e.still, mVal v⟩ := by
  refine ⟨h.ex, h.fz, h.pure, h.still, fun r vs k x hx => ?_⟩
  cases vs with
  | nil => exact .inl ⟨v, hp, by simp [AV.trees], hv, hx⟩
  | cons a l => exact .inr hx

/- a body -/
theorem body_ok {e : FE} (he : FEok P A f e) {cl : CL} (hc : CLok P A cl) {kk : Nat} {vs : List AV} {R : RG} {s : HS} {K : AV → HS → RT} {h : Heap} {n : Nat} (hlen : vs.length ≤ e.nt) (hR : Regs R (initRegs vs)) (hbx : s.bx = []) (hr : Rel s h n) (x : bodyC e.code e.res e.fz cl kk R s K = some r) :
    ∃ v bx h' n' lg s1, (∃ k0, ∀ k, k0 ≤ k → body (callN P A k) P A k f vs h n = some ((v, bx), h', n', lg)) ∧ Nx (unb s) h n lg (unb s1) h' n' ∧ s1.bx = bx ∧ K v s1 = some r := by
  obtain ⟨fn, c0, c, rs, e1, e2, e3, e4, e5, e6, e7, e8, e9⟩ := he.ex
  rw [e7, e8] at x
  replace x : codeC c cl kk R s (fun R s => finC (resC rs) e.fz R s K) (fun y R s => AX.rec (motive := fun _ => RT) none (fun _ => none) (finC (resC rs) e.fz R s K) y) = some r := x
  obtain ⟨y, fr1, h1, n1, l1, R1, s1, ⟨k1, c1⟩, nx1, hf1, q1⟩ := code_ok (fr := ⟨initRegs vs, []⟩) hc kk e3 e6 ⟨hR, hbx⟩ hr x
  have q : finC (resC rs) e.fz R1 s1 K = some r ∧ ∀ i, y ≠ .exit i := by
    cases y with
    | norm => exact ⟨q1, by simp⟩
    | exit i => exact (nn q1).elim
    | ret => exact ⟨q1, by simp⟩
  obtain ⟨q, hy⟩ := q
  replace q : resC rs R1 s1 (fun v s => Bool.rec (motive := fun _ => RT) (K v s) (frzN 1000 v s K) e.fz) = some r := q
  obtain ⟨ws, l2, s2, e10, nx2, q⟩ := resC_ok hf1.1 e4 nx1.rel.bu q
  have hz : ∃ v h2 l3 s3, (if A.fz f then freezeV 1000 (tupled ws) else AM.pure (tupled ws)) h1 n1 = some (v, h2, n1, l3) ∧ Nx s2 h1 n1 l3 s3 h2 n1 ∧ K v s3 = some r := by
    rw [he.fz] at q
    cases hfz : A.fz f with
    | false =>
      rw [hfz] at q
      exact ⟨_, h1, ([], []), s2, rfl, Nx.refl nx2.rel, q⟩
    | true =>
      rw [hfz] at q
      exact frzN_ok 1000 _ _ _ _ _ _ nx2.rel q
  obtain ⟨v, h2, l3, s3, e11, nx3, q⟩ := hz
  refine ⟨v, fr1.boxes, h2, n1, _, s3, ⟨k1, fun k hk => ?_⟩, (nx1.trans nx2.ub).trans nx3.ub, ?_, q⟩
  · unfold body
    rw [e1]
    simp only [e2]
    rw [if_neg (by simp [e5]; omega)]
    have inner : (AM.bind (resultsA P fr1.regs fn.results.toList) fun vs => AM.bind (if A.fz f then freezeV 1000 (tupled vs) else AM.pure (tupled vs)) fun v => AM.pure (v, fr1.boxes)) h1 n1 = some ((v, fr1.boxes), h2, n1, (l2.1 ++ l3.1, l2.2 ++ l3.2)) := by
      have := am_bind (g := fun vs => AM.bind (if A.fz f then freezeV 1000 (tupled vs) else AM.pure (tupled vs)) fun v => AM.pure (v, fr1.boxes)) e10 (am_bind (g := fun v => AM.pure (v, fr1.boxes)) (l2 := ([], [])) e11 rfl)
      simpa using this
    rw [List.append_assoc, List.append_assoc]
    refine am_bind (l2 := (l2.1 ++ l3.1, l2.2 ++ l3.2)) (c1 k hk) ?_
    cases y with
    | exit i => exact absurd rfl (hy i)
    | norm => exact inner
    | ret => exact inner
  · rw [nx3.bx, nx2.bx]
    exact hf1.2

theorem topB_el {n : Nat} : ∀ {H : HL}, topB n H = true → ∀ {m}, H.ok m → H.ok n
  | .nil, _, _, _ => trivial
  | .cons j o t, h, m, ho => ⟨ble_le h, ho.2⟩

/- a call over the heap -/
theorem with_ok {e : FE} (he : FEok P A f e) {cl : CL} (hc : CLok P A cl) {kk : Nat} {vs : List AV} {s : HS} {K : AV → HS → RT} {h : Heap} {n : Nat} (hlen : vs.length ≤ e.nt) (hr : Rel s h n) (x : withC e.code e.res e.fz e.still cl kk vs s K = some r) :
    ∃ v h' n' lg s1, (∃ k0, ∀ k, k0 ≤ k → callO (callN P A k) P A k f vs h n = some (v, h', n', lg)) ∧ Nx s h n lg s1 h' n' ∧ K v s1 = some r := by
  obtain ⟨H, m, bx, thr, rd, wr, mw⟩ := s
  have hm : m = n := hr.num
  subst hm
  replace x : argsC vs (fun R => bodyC e.code e.res e.fz cl kk R ⟨H, m, [], thr, rd, wr, m⟩ fun v s1 => HS.rec (motive := fun _ => RT) (fun h1 n1 bx1 _ rd wr mw1 => ridsC m bx1 h1 fun h2 =>
    Bool.rec (motive := fun _ => RT) (Bool.rec (motive := fun _ => RT) (K v ⟨h2, n1, bx, thr, rd, wr, mw⟩) (Bool.rec (motive := fun _ => RT) (Bool.rec (motive := fun _ => RT) (K v ⟨h2, n1, bx, thr, rd, wr, mw⟩) (K v ⟨H, n1, bx, thr, rd, wr, mw⟩) (treeB v)) (K v ⟨h2, n1, bx, thr, rd, wr, mw⟩) (topB m h2)) e.still)
      (minC mw mw1 fun mw => K v ⟨h2, n1, bx, thr, rd, wr, mw⟩) (Nat.ble (Nat.succ mw1) m)) s1) = some r := x
  obtain ⟨R, hR, x⟩ := args_ok x
  obtain ⟨v, bx1, h1, n1, lg, s1, ⟨k0, hk⟩, nx, hb, x⟩ := body_ok (s := ⟨H, m, [], thr, rd, wr, m⟩) he hc hlen hR rfl ⟨hr.look, hr.ok, rfl, Nat.le_refl _, hr.thr⟩ x
  obtain ⟨H1, m1, bx1', thr1, rd1, wr1, mw1⟩ := s1
  have hb : bx1' = bx1 := hb
  subst hb
  have hm1 : m1 = n1 := nx.rel.num
  subst hm1
  replace x : ridsC m bx1' H1 (fun h2 => Bool.rec (motive := fun _ => RT) (Bool.rec (motive := fun _ => RT) (K v ⟨h2, m1, bx, thr, rd1, wr1, mw⟩) (Bool.rec (motive := fun _ => RT) (Bool.rec (motive := fun _ => RT) (K v ⟨h2, m1, bx, thr, rd1, wr1, mw⟩) (K v ⟨H, m1, bx, thr, rd1, wr1, mw⟩) (treeB v)) (K v ⟨h2, m1, bx, thr, rd1, wr1, mw⟩) (topB m h2)) e.still)
      (minC mw mw1 fun mw => K v ⟨h2, m1, bx, thr, rd1, wr1, mw⟩) (Nat.ble (Nat.succ mw1) m)) = some r := x
  obtain ⟨H2, o1, o2, o3, x⟩ := HL.ids_el nx.rel.ok x
  have hle : m ≤ m1 := nx.le
  have hmw : mw ≤ m := hr.mw
  -- the heap at the end
  have hfree : ∀ i, H2.look i = freeBoxes m m1 h1 bx1' i := by
    intro i
    rw [o2 i]
    unfold freeBoxes
    have hl : H1.look i = h1 i := nx.rel.look i
    by_cases hi : i ∈ bx1'
    · rw [if_pos hi]
      by_cases hi2 : i < m1
      · rw [if_pos ⟨o3 i hi, hi2, by simpa using hi⟩]
      · rw [if_neg (fun hc => hi2 hc.2.1)]
        rw [← hl]
        exact (HL.look_ge nx.rel.ok (by omega)).symm
    · rw [if_neg hi, if_neg (fun hc => hi (by simpa using hc.2.2))]
      exact hl
  have hsame : ∀ i, i < m → i ∉ lg.2 → freeBoxes m m1 h1 bx1' i = h i := by
    intro i hi hw
    unfold freeBoxes
    rw [if_neg (fun hc => absurd hc.1 (by omega))]
    exact nx.frame i hi hw
  let lf : Log := (lg.1.filter (· < m), lg.2.filter (· < m))
  have hrd : ∀ id, id ∈ rd ∨ (id < thr ∧ id ∈ lf.1) → id ∈ rd1 := by
    rintro id (hi | ⟨hl, hi⟩)
    · exact nx.rd id (.inl hi)
    · exact nx.rd id (.inr ⟨hl, (List.mem_filter.1 hi).1⟩)
  have hwr : ∀ id, id ∈ wr ∨ (id < thr ∧ id ∈ lf.2) → id ∈ wr1 := by
    rintro id (hi | ⟨hl, hi⟩)
    · exact nx.wr id (.inl hi)
    · exact nx.wr id (.inr ⟨hl, (List.mem_filter.1 hi).1⟩)
  have hown : ∀ id, id ∈ lf.1 ∨ id ∈ lf.2 → id < m1 := by
    rintro id (hi | hi)
    · exact nx.own id (.inl (List.mem_filter.1 hi).1)
    · exact nx.own id (.inr (List.mem_filter.1 hi).1)
  have hlow : ∀ id ∈ lf.2, id < m := fun id hi => by simpa using (List.mem_filter.1 hi).2
  have hnlow : ∀ id, id < m → id ∉ lf.2 → id ∉ lg.2 := fun id hi hn hc => hn (List.mem_filter.2 ⟨hc, by simpa using hi⟩)
  have plain : ∀ {mw' : Nat}, (∀ id ∈ lf.2, mw' ≤ id) → (mw' = mw ∨ mw' ∈ lf.2) → mw' ≤ mw → Nx ⟨H, m, bx, thr, rd, wr, mw⟩ h m lf ⟨H2, m1, bx, thr, rd1, wr1, mw'⟩ (freeBoxes m m1 h1 bx1') m1 := by
    intro mw' a1 a2 a3
    refine ⟨⟨hfree, o1, rfl, ?_, Nat.le_trans hr.thr hle⟩, hle, rfl, rfl, hrd, hwr, hown, a1, a2, a3, fun i hi hn => hsame i hi (hnlow i hi hn)⟩
    show mw' ≤ m1
    omega
  -- as the machine ends it
  have fin : ∀ {w : AV × Heap × Nat × Log}, finish (A.still f) m h v bx1' h1 m1 lg = w → ∃ k0, ∀ k, k0 ≤ k → callO (callN P A k) P A k f vs h m = some w := by
    intro w hw
    refine ⟨k0, fun k hle => ?_⟩
    unfold callO
    rw [hk k hle]
    simp only [hw]
  have plainF : ¬((A.still f && v.tree && lf.2.isEmpty) = true) → finish (A.still f) m h v bx1' h1 m1 lg = (v, freeBoxes m m1 h1 bx1', m1, lf) := by
    intro hn
    unfold finish
    simp only
    rw [if_neg hn]
  have stillF : (A.still f && v.tree && lf.2.isEmpty) = true → finish (A.still f) m h v bx1' h1 m1 lg = (v, h, m1, (lf.1, [])) := by
    intro hn
    unfold finish
    simp only
    rw [if_pos hn]
  replace x := br_b x
  rcases x with ⟨hw, x⟩ | ⟨hw, x⟩
  · -- nothing older was written
    have hw : ¬ mw1 < m := ble_nle hw
    have hnone : lf.2 = [] := by
      apply List.eq_nil_iff_forall_not_mem.2
      intro id hi
      have h1' : mw1 ≤ id := nx.mw id (List.mem_filter.1 hi).1
      have := hlow id hi
      omega
    have nxp := plain (mw' := mw) (by rw [hnone]; simp) (.inl rfl) (Nat.le_refl _)
    -- the same as before, when all of its own is gone
    have both : H2.ok m → freeBoxes m m1 h1 bx1' = h := by
      intro ho
      funext i
      by_cases hi : i < m
      · exact hsame i hi (hnlow i hi (by rw [hnone]; simp))
      · rw [← hfree i, HL.look_ge ho (by omega)]
        exact (hr.fresh i (by omega)).symm
    replace x := br_b x
    rcases x with ⟨hs, x⟩ | ⟨hs, x⟩
    · refine ⟨v, _, _, _, _, fin (plainF (by rw [← he.still, hs]; simp)), nxp, x⟩
    · replace x := br_b x
      rcases x with ⟨ht, x⟩ | ⟨ht, x⟩
      · replace x := br_b x
        rcases x with ⟨hv, x⟩ | ⟨hv, x⟩
        · rw [treeB_eq] at hv
          refine ⟨v, _, _, _, _, fin (plainF (by rw [hv]; simp)), nxp, x⟩
        · rw [treeB_eq] at hv
          refine ⟨v, _, _, _, _, fin (stillF (by rw [← he.still, hs, hv, hnone]; rfl)), ?_, x⟩
          exact ⟨⟨hr.look, HL.ok_le hr.ok hle, rfl, Nat.le_trans hmw hle, Nat.le_trans hr.thr hle⟩, hle, rfl, rfl, hrd, by rw [← hnone]; exact hwr, by rw [← hnone]; exact hown, by simp, .inl rfl, Nat.le_refl _, fun _ _ _ => rfl⟩
      · have hok := topB_el ht o1
        have hbth := both hok
        by_cases hcond : (A.still f && v.tree && lf.2.isEmpty) = true
        · refine ⟨v, _, _, _, _, fin (stillF hcond), ?_, x⟩
          have := nxp
          rw [hbth] at this
          have e2 : lf = (lf.1, []) := by rw [← hnone]
          rw [← e2]
          exact this
        · exact ⟨v, _, _, _, _, fin (plainF hcond), nxp, x⟩
  · have hw : mw1 < m := ble_le hw
    have hin : mw1 ∈ lf.2 := by
      rcases nx.mw2 with e1 | e1
      · have e1 : mw1 = m := e1
        omega
      · exact List.mem_filter.2 ⟨e1, by simpa using hw⟩
    rw [minC_eq] at x
    refine ⟨v, _, _, _, _, fin (plainF ?_), plain (mw' := min mw mw1) ?_ ?_ (Nat.min_le_left _ _), x⟩
    · have : lf.2.isEmpty = false := by
        cases hl : lf.2 with
        | nil => rw [hl] at hin; cases hin
        | cons _ _ => rfl
      rw [this]
      simp
    · intro id hi
      exact Nat.le_trans (Nat.min_le_right _ _) (nx.mw id (List.mem_filter.1 hi).1)
    · by_cases hc' : mw ≤ mw1
      · exact .inl (Nat.min_eq_left hc')
      · exact .inr (by rw [Nat.min_eq_right (by omega)]; exact hin)

/- a call -/
theorem call1_ok {e : FE} (he : FEok P A f e) {cl : CL} (hc : CLok P A cl) {kk : Nat} {vs : List AV} {s : HS} {K : AV → HS → RT} {h : Heap} {n : Nat} (hr : Rel s h n) (x : callC1 e cl kk vs s K = some r) :
    ∃ v h' n' lg s1, (∃ k0, ∀ k, k0 ≤ k → callN P A k f vs h n = some (v, h', n', lg)) ∧ Nx s h n lg s1 h' n' ∧ K v s1 = some r := by
  obtain ⟨code, res, nt, fz, pure, still, memo⟩ := e
  replace x : memo vs (fun v => K v s) (Bool.rec (motive := fun _ => RT) none (Bool.rec (motive := fun _ => RT) (withC code res fz still cl kk vs s K) (Bool.rec (motive := fun _ => RT) (withC code res fz still cl kk vs s K) (aloneC code res fz cl kk vs s K) (treesB vs)) pure) (Nat.ble (lenN vs) nt)) = some r := x
  have hpure : pure = A.pure f := he.pure
  rcases he.memo _ _ _ _ x with ⟨v, p1, p2, p3, x⟩ | x
  · obtain ⟨k0, n0, hv⟩ := p3 h n hr.fresh
    refine ⟨v, h, n, ([], []), s, ⟨k0, fun k hk => ?_⟩, Nx.refl hr, x⟩
    cases k0 with
    | zero => cases hv
    | succ k1 =>
      have hn : n0 = n := by
        unfold callN at hv
        rw [if_pos (by rw [p1, p2]; rfl)] at hv
        exact (alone_some hv).2.1
      subst hn
      exact le_callN hk f vs _ _ _ hv
  · obtain ⟨hl, x⟩ := br_t x
    have hl := ble_le hl
    rw [lenN_eq] at hl
    have wi : A.pure f = false ∨ AV.trees vs = false → withC code res fz still cl kk vs s K = some r → ∃ v h' n' lg s1, (∃ k0, ∀ k, k0 ≤ k → callN P A k f vs h n = some (v, h', n', lg)) ∧ Nx s h n lg s1 h' n' ∧ K v s1 = some r := by
      intro hp x
      obtain ⟨v, h', n', lg, s1, ⟨k0, hk⟩, nx, x⟩ := with_ok he hc hl hr x
      refine ⟨v, h', n', lg, s1, ⟨k0 + 1, fun k hle => ?_⟩, nx, x⟩
      obtain ⟨k, rfl⟩ : ∃ i, k = i + 1 := ⟨k - 1, by omega⟩
      unfold callN
      rw [if_neg (by rcases hp with hp | hp <;> rw [hp] <;> simp)]
      exact hk k (by omega)
    replace x := br_b x
    rcases x with ⟨hp, x⟩ | ⟨hp, x⟩
    · exact wi (.inl (by rw [← hpure, hp])) x
    · replace x := br_b x
      rcases x with ⟨ht, x⟩ | ⟨ht, x⟩
      · rw [treesB_eq] at ht
        exact wi (.inr ht) x
      · rw [treesB_eq] at ht
        replace x : argsC vs (fun R => bodyC code res fz cl kk R ⟨.nil, 0, [], 0, [], [], 0⟩ fun v _ => Bool.rec (motive := fun _ => RT) none (K v s) (treeB v)) = some r := x
        obtain ⟨R, hR, x⟩ := args_ok x
        obtain ⟨v, bx1, h1, n1, lg, s1, ⟨k0, hk⟩, nx, hb, x⟩ := body_ok (e := ⟨code, res, nt, fz, pure, still, memo⟩) (s := ⟨.nil, 0, [], 0, [], [], 0⟩) (h := fun _ => none) (n := 0) he hc hl hR rfl ⟨fun _ => rfl, trivial, rfl, Nat.le_refl _, Nat.le_refl _⟩ x
        obtain ⟨hv, x⟩ := br_t x
        rw [treeB_eq] at hv
        refine ⟨v, h, n, ([], []), s, ⟨k0 + 1, fun k hle => ?_⟩, Nx.refl hr, x⟩
        obtain ⟨k, rfl⟩ : ∃ i, k = i + 1 := ⟨k - 1, by omega⟩
        unfold callN
        rw [if_pos (by rw [← hpure, hp, ht]; rfl)]
        have : ∃ w, callO (callN P A k) P A k f vs (fun _ => none) 0 = some (v, w) := by
          unfold callO
          rw [hk k (by omega)]
          unfold finish
          simp only
          split <;> exact ⟨_, rfl⟩
        obtain ⟨⟨a, b, c⟩, hw⟩ := this
        exact alone_of hv hw h n

/- all functions of a table -/
def TBok (P : Program) (A : Ann) (T : TB) : Prop := ∀ (r : AV) g k, get4 (toD4 g) T k = some r → ∃ e, FEok P A g e ∧ k e = some r

theorem callC_ok {T : TB} (hT : TBok P A T) : ∀ k, CLok P A (callC T k)
  | 0 => fun r g vs s K h n hr e => (nn e).elim
  | k + 1 => fun r g vs s K h n hr x => by
    replace x : get4 (toD4 g) T (fun e => callC1 e (callC T k) k vs s K) = some r := x
    obtain ⟨e, he, x⟩ := hT _ _ _ x
    exact call1_ok he (callC_ok hT k) hr x

theorem runC_ok {T : TB} (hT : TBok P A T) {k g : Nat} {vs : List AV} {v : AV} (x : runC k T g vs = some v) : ∃ k h' n' lg, callN P A k g vs (fun _ => none) 0 = some (v, h', n', lg) := by
  obtain ⟨w, h', n', lg, s1, ⟨k0, hk⟩, _, e⟩ := callC_ok hT k _ g vs hs0 (fun v _ => some v) (fun _ => none) 0 ⟨fun _ => rfl, trivial, rfl, Nat.le_refl _, Nat.le_refl _⟩ x
  have : w = v := by simpa using e
  subst this
  exact ⟨k0, h', n', lg, hk k0 (Nat.le_refl _)⟩
theorem runC_pure {T : TB} (hT : TBok P A T) {k g : Nat} {vs : List AV} {v : AV} (hp : A.pure g = true) (ht : AV.trees vs = true) (x : runC k T g vs = some v) : PureC P A g vs v := by
  obtain ⟨k, h', n', lg, e⟩ := runC_ok hT x
  exact pure_eval k hp ht (by unfold hp0; rw [e]; rfl)

/- tables, piece by piece -/
def Ok1 (P : Program) (A : Ann) (i : Nat) : Option FE → Prop
  | none => True
  | some e => FEok P A i e
structure L8 {β : Type} (p : Nat → β → Prop) (T : N8 β) : Prop where
  c0 : p 0 T.c0
  c1 : p 1 T.c1
  c2 : p 2 T.c2
  c3 : p 3 T.c3
  c4 : p 4 T.c4
  c5 : p 5 T.c5
  c6 : p 6 T.c6
  c7 : p 7 T.c7
theorem L8.at {β : Type} {p : Nat → β → Prop} {T : N8 β} (h : L8 p T) : ∀ d, d < 8 → p d (sel d T) := by
  intro d hd
  obtain rfl | rfl | rfl | rfl | rfl | rfl | rfl | rfl : d = 0 ∨ d = 1 ∨ d = 2 ∨ d = 3 ∨ d = 4 ∨ d = 5 ∨ d = 6 ∨ d = 7 := by omega
  · exact h.c0
  · exact h.c1
  · exact h.c2
  · exact h.c3
  · exact h.c4
  · exact h.c5
  · exact h.c6
  · exact h.c7
def Lf (P : Program) (A : Ann) (b : Nat) (T : N8 (Option FE)) : Prop := L8 (fun d => Ok1 P A (b + d)) T
def Lg (P : Program) (A : Ann) (b : Nat) (T : N8 (N8 (Option FE))) : Prop := L8 (fun d => Lf P A (b + 8 * d)) T
def Lh (P : Program) (A : Ann) (b : Nat) (T : N8 (N8 (N8 (Option FE)))) : Prop := L8 (fun d => Lg P A (b + 64 * d)) T
def Li (P : Program) (A : Ann) (T : TB) : Prop := L8 (fun d => Lh P A (512 * d)) T

theorem dg_s {β : Type} (d : Nat) (hd : d < 8) (T : N8 β) (k : β → RT) : (dg d).s T k = k (sel d T) := by
  obtain rfl | rfl | rfl | rfl | rfl | rfl | rfl | rfl : d = 0 ∨ d = 1 ∨ d = 2 ∨ d = 3 ∨ d = 4 ∨ d = 5 ∨ d = 6 ∨ d = 7 := by omega
  all_goals rfl

theorem tb_ok {T : TB} (h : Li P A T) : TBok P A T := by
  intro r g k x
  unfold toD4 at x
  cases hg : Nat.ble g 4095 with
  | false => rw [hg] at x; exact (nn x).elim
  | true =>
    have hle := ble_le hg
    rw [hg] at x
    replace x : (dg (g / 512)).s T (fun T => (dg (g / 64 % 8)).s T fun T => (dg (g / 8 % 8)).s T fun T => (dg (g % 8)).s T (orN k)) = some r := x
    rw [dg_s _ (by omega), dg_s _ (by omega), dg_s _ (by omega), dg_s _ (by omega)] at x
    have h1 := h.at (g / 512) (by omega)
    have h2 := L8.at h1 (g / 64 % 8) (by omega)
    have h3 := L8.at h2 (g / 8 % 8) (by omega)
    have h4 := L8.at h3 (g % 8) (by omega)
    have hi : 512 * (g / 512) + 64 * (g / 64 % 8) + 8 * (g / 8 % 8) + g % 8 = g := by omega
    rw [hi] at h4
    generalize sel (g % 8) (sel (g / 8 % 8) (sel (g / 64 % 8) (sel (g / 512) T))) = o at x h4
    cases o with
    | none => exact (nn x).elim
    | some e => exact ⟨e, h4, x⟩
end
end Go.Abs
