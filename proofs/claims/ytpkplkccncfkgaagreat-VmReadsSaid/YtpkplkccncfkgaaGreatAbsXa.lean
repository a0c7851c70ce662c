/- The evaluator's second form: its operations are those of the first one. -/
import Derived.Test.YtpkplkccncfkgaaGreatAbsX
import Derived.Test.YtpkplkccncfkgaaGreatAbsEHf
namespace Go.Abs

/- registers known, and a tree of them -/
def EnvOK (ρ : EV) (rg : Nat → AV) : Prop := ∀ t v, lkE t ρ = some v → rg t = v
def EnvR (ρ : EV) (R : RG) : Prop := ∀ t v, t ≤ 511 → lkE t ρ = some v → lookT R t = v
def mkR1 (rg : Nat → AV) (b : Nat) : N8 AV := ⟨rg b, rg (b + 1), rg (b + 2), rg (b + 3), rg (b + 4), rg (b + 5), rg (b + 6), rg (b + 7)⟩
def mkR2 (rg : Nat → AV) (b : Nat) : N8 (N8 AV) := ⟨mkR1 rg b, mkR1 rg (b + 8), mkR1 rg (b + 16), mkR1 rg (b + 24), mkR1 rg (b + 32), mkR1 rg (b + 40), mkR1 rg (b + 48), mkR1 rg (b + 56)⟩
def mkR (rg : Nat → AV) : RG := ⟨mkR2 rg 0, mkR2 rg 64, mkR2 rg 128, mkR2 rg 192, mkR2 rg 256, mkR2 rg 320, mkR2 rg 384, mkR2 rg 448⟩
theorem sel8 {β : Type} {d : Nat} {f : Nat → β} (hd : d < 8) : sel d (⟨f 0, f 1, f 2, f 3, f 4, f 5, f 6, f 7⟩ : N8 β) = f d := by
  obtain rfl | rfl | rfl | rfl | rfl | rfl | rfl | rfl : d = 0 ∨ d = 1 ∨ d = 2 ∨ d = 3 ∨ d = 4 ∨ d = 5 ∨ d = 6 ∨ d = 7 := by omega
  all_goals rfl
theorem mkR_regs (rg : Nat → AV) : Regs (mkR rg) rg := by
  intro t ht
  unfold lookT
  have h1 : sel (t / 64) (mkR rg) = mkR2 rg (64 * (t / 64)) := sel8 (f := fun d => mkR2 rg (64 * d)) (by omega)
  have h2 : ∀ b, sel (t / 8 % 8) (mkR2 rg b) = mkR1 rg (b + 8 * (t / 8 % 8)) := fun b => sel8 (f := fun d => mkR1 rg (b + 8 * d)) (by omega)
  have h3 : ∀ b, sel (t % 8) (mkR1 rg b) = rg (b + t % 8) := fun b => sel8 (f := fun d => rg (b + d)) (by omega)
  rw [h1, h2, h3]
  congr 1
  omega
theorem EnvOK.r {ρ : EV} {rg : Nat → AV} (h : EnvOK ρ rg) : EnvR ρ (mkR rg) := fun t v ht hv => by
  rw [← mkR_regs rg t ht]
  exact h t v hv

section
variable {ρ : EV} {R : RG}

theorem okR_el {t : Nat} (h : okR ρ t = true) : t ≤ 511 ∧ lkE t ρ = some (xrE ρ t) := by
  unfold okR at h
  cases h1 : Nat.ble t 511 with
  | false => rw [h1] at h; cases h
  | true =>
    rw [h1] at h
    cases h2 : lkE t ρ with
    | none => rw [h2] at h; cases h
    | some v => exact ⟨ble_le h1, by unfold xrE; rw [h2]⟩
theorem lookR (hR : EnvR ρ R) {t : Nat} (h : okR ρ t = true) : lookT R t = xrE ρ t := hR t _ (okR_el h).1 (okR_el h).2
theorem xT_ev (hR : EnvR ρ R) {t : Nat} (h : okR ρ t = true) (k : AV → RT) : xT t R k = k (xrE ρ t) := by
  rw [← lookR hR h]
  have ht := (okR_el h).1
  unfold xT
  rw [Nat.ble_eq_true_of_le ht]
  show x3 _ _ _ R k = _
  unfold x3
  simp only [sg_eq]
  rfl
theorem evX (hR : EnvR ρ R) {x : SX} (h : okX ρ x = true) (k : AV → RT) : evC x R k = k (xvE ρ x) := by
  cases x with
  | r t => exact xT_ev hR h k
  | c v => rfl
theorem evR3 (hR : EnvR ρ R) {x : SX} (h : okX ρ x = true) : ev (R3 R) x = some (xvE ρ x) := by
  cases x with
  | r t =>
    show R3 R t = _
    unfold R3
    exact xT_ev hR h some
  | c v => rfl
theorem evLX (hR : EnvR ρ R) : ∀ {l : List SX} (_ : okXs ρ l = true) (k : List AV → RT), evL l R k = k (xsE ρ l)
  | [], _, _ => rfl
  | x :: l, h, k => by
    replace h : Bool.rec (motive := fun _ => Bool) false (okXs ρ l) (okX ρ x) = true := h
    cases h1 : okX ρ x with
    | false => rw [h1] at h; cases h
    | true =>
      rw [h1] at h
      show evC x R (fun v => evL l R fun vs => k (v :: vs)) = _
      rw [evX hR h1, evLX hR h]
      rfl
theorem evSX (hR : EnvR ρ R) : ∀ {l : List SX} (_ : okXs ρ l = true), evS (R3 R) l = some (xsE ρ l)
  | [], _ => rfl
  | x :: l, h => by
    replace h : Bool.rec (motive := fun _ => Bool) false (okXs ρ l) (okX ρ x) = true := h
    cases h1 : okX ρ x with
    | false => rw [h1] at h; cases h
    | true =>
      rw [h1] at h
      simp only [evS, evR3 hR h1, evSX hR h]
      rfl
theorem evSC {E : Lk} : ∀ {l : List SX}, evS E (csE ρ l) = some (xsE ρ l)
  | [] => rfl
  | x :: l => by
    show evS E (.c (xvE ρ x) :: csE ρ l) = _
    simp only [evS, ev, evSC]
    rfl
theorem optX (hR : EnvR ρ R) {o : Option SX} (h : okI ρ o = true) (d : Nat) (k : Nat → RT) : optI o R d k = oiE ρ o d k := by
  cases o with
  | none => rfl
  | some x => exact evX hR h _
theorem evIX (hR : EnvR ρ R) {o : Option SX} (h : okI ρ o = true) (d : Int) : evI (R3 R) d o = evI (fun _ => none) d (coE ρ o) := by
  cases o with
  | none => rfl
  | some x =>
    show (match ev (R3 R) x with | some (.int _ n) => some n | _ => none) = (match ev (fun _ => none) (.c (xvE ρ x)) with | some (.int _ n) => some n | _ => none)
    rw [evR3 hR h]
    rfl
theorem fillX (hR : EnvR ρ R) : ∀ {l : List (Nat × Nat × SX)} (_ : okP ρ l = true) (cs : List AV) (k : List AV → RT), fillC l R cs k = fillE ρ l cs k
  | [], _, _, _ => rfl
  | (o, s, x) :: l, h, cs, k => by
    replace h : Bool.rec (motive := fun _ => Bool) false (okP ρ l) (okX ρ x) = true := h
    cases h1 : okX ρ x with
    | false => rw [h1] at h; cases h
    | true =>
      rw [h1] at h
      show evC x R (fun v => partC v s o cs fun cs => fillC l R cs k) = partC (xvE ρ x) s o cs fun cs => fillE ρ l cs k
      rw [evX hR h1]
      congr 1
      funext cs'
      exact fillX hR h cs' k

/- one by one -/
theorem and2 {a b : Bool} (h : Bool.rec (motive := fun _ => Bool) false b a = true) : a = true ∧ b = true := by
  cases a with
  | false => cases h
  | true => exact ⟨rfl, h⟩
def DOK (d : DK3) (cl : CL) (R : RG) (kc : HK) : Prop := match d with
  | .known v => ∀ s K, kc cl R s K = K v s
  | .val h => ∀ s K, kc cl R s K = h (fun v => K v s)
  | .heap h => ∀ s K, kc cl R s K = h s K
theorem sltX (hR : EnvR ρ R) {lo hi : Option SX} (h1 : okI ρ lo = true) (h2 : okI ρ hi = true) (v : AV) (s : Nat) (K : AV → RT) : sltA v R (optI lo) (optI hi) s K = sltA v un3 (fun _ => oiE ρ lo) (fun _ => oiE ρ hi) s K := by
  have a1 : ∀ d k, optI lo R d k = oiE ρ lo d k := optX hR h1
  have a2 : ∀ d k, optI hi R d k = oiE ρ hi d k := optX hR h2
  cases v with
  | nil k => cases k <;> first | rfl | (show optI lo R 0 _ = oiE ρ lo 0 _; rw [a1]; congr 1; funext l; exact a2 0 _)
  | sl id off len sz => show optI lo R 0 _ = oiE ρ lo 0 _; rw [a1]; congr 1; funext l; exact a2 len _
  | tsl cs len => show optI lo R 0 _ = oiE ρ lo 0 _; rw [a1]; congr 1; funext l; exact a2 len _
  | _ => rfl
theorem kdC (hR : EnvR ρ R) (cl : CL) : ∀ {k : SK}, (∀ op x y, k = .bin op x y → op ≠ .rem ∧ askQ ρ (opN op) = false) → (∀ kd x, k = .cv kd x → askQ ρ 20 = false) → okK ρ k = true → DOK (kD0 cl ρ k) cl R (kC k)
  | .mv x, _, hcv, h => by
    have hz : okX ρ x = true := h
    intro s K
    show hMv (evC x) cl R s K = _
    unfold hMv; simp only [evX hR hz]; try rfl
  | .pick c a b, _, hcv, h => by
    obtain ⟨h0, hz⟩ := and2 h
    obtain ⟨h1, hz⟩ := and2 hz
    intro s K
    show hPick (evC c) (evC a) (evC b) cl R s K = _
    unfold hPick; simp only [evX hR h0, evX hR h1, evX hR hz]; try rfl
  | .bin op x y, hn, hcv, h => by
    obtain ⟨h0, hz⟩ := and2 h
    obtain ⟨h1, h2⟩ := hn _ _ _ rfl
    show DOK (binD cl ρ op (regX x) (xvE ρ x) (xvE ρ y)) _ _ _
    unfold binD
    rw [h2]
    cases op <;> first
      | exact absurd rfl h1
      | (intro s K; show hB (binC _) (evC x) (evC y) cl R s K = _; unfold hB; simp only [evX hR h0, evX hR hz]; try rfl)
  | .beq n x y, _, hcv, h => by
    obtain ⟨h0, hz⟩ := and2 h
    intro s K
    show hBeq n (evC x) (evC y) cl R s K = _
    unfold hBeq; simp only [evX hR h0, evX hR hz]; try rfl
  | .isnil n k x, _, hcv, h => by
    have hz : okX ρ x = true := h
    intro s K
    show hNil n k (evC x) cl R s K = _
    unfold hNil; simp only [evX hR hz]; try rfl
  | .un o x, _, hcv, h => by
    have hz : okX ρ x = true := h
    intro s K
    have e : ∀ k', svB (R3 R) (.un o x) = svB (fun _ => none) k' → hGen (.un o x) cl R s K = vGen k' (fun v => K v s) := by intro k' e; unfold hGen vGen; rw [e]
    refine e _ ?_
    simp only [svB]; simp only [evR3 hR hz]; try simp only [ev]
    try rfl
  | .fa x o, _, hcv, h => by
    have hz : okX ρ x = true := h
    intro s K
    show hFa (evC x) o cl R s K = _
    unfold hFa; simp only [evX hR hz]; try rfl
  | .ia x i n s_, _, hcv, h => by
    obtain ⟨h0, hz⟩ := and2 h
    cases n with
    | none => intro s K; show hIaS (evC x) (evC i) s_ cl R s K = _; unfold hIaS; simp only [evX hR h0, evX hR hz]; try rfl
    | some n => intro s K; show hIaN (evC x) (evC i) n s_ cl R s K = _; unfold hIaN; simp only [evX hR h0, evX hR hz]; try rfl
  | .ld x m, _, hcv, h => by
    have hz : okX ρ x = true := h
    intro s K
    show hLd (evC x) (takeC m) cl R s K = _
    unfold hLd; simp only [evX hR hz]; try rfl
  | .fld x o m, _, hcv, h => by
    have hz : okX ρ x = true := h
    intro s K
    show hFld (evC x) o (takeC m) cl R s K = _
    unfold hFld; simp only [evX hR hz]; try rfl
  | .ext x i, _, hcv, h => by
    have hz : okX ρ x = true := h
    intro s K
    show hExt (evC x) i cl R s K = _
    unfold hExt; simp only [evX hR hz]; try rfl
  | .len x n, _, hcv, h => by
    have hz : okX ρ x = true := h
    cases n with
    | none => intro s K; show hLenS (evC x) cl R s K = _; unfold hLenS; simp only [evX hR hz]; try rfl
    | some n => intro s K; show hLenN (evC x) n cl R s K = _; unfold hLenN; simp only [evX hR hz]; try rfl
  | .lens x, _, hcv, h => by
    have hz : okX ρ x = true := h
    intro s K
    show hLens (evC x) cl R s K = _
    unfold hLens; simp only [evX hR hz]; try rfl
  | .cv k x, _, hcv, h => by
    have hz : okX ρ x = true := h
    show DOK (cvD cl ρ k (regX x) (xvE ρ x)) _ _ _
    unfold cvD
    rw [hcv _ _ rfl]
    intro s K
    show hCv k (evC x) cl R s K = _
    unfold hCv; simp only [evX hR hz]; try rfl
  | .ss x, _, hcv, h => by
    have hz : okX ρ x = true := h
    intro s K
    have e : ∀ k', svB (R3 R) (.ss x) = svB (fun _ => none) k' → hGen (.ss x) cl R s K = vGen k' (fun v => K v s) := by intro k' e; unfold hGen vGen; rw [e]
    refine e _ ?_
    simp only [svB]; simp only [evR3 hR hz]; try simp only [ev]
    try rfl
  | .chk x, _, hcv, h => by
    have hz : okX ρ x = true := h
    intro s K
    show hChk (evC x) cl R s K = _
    unfold hChk; simp only [evX hR hz]; try rfl
  | .bld z ps, _, hcv, h => by
    have hz : okP ρ ps = true := h
    intro s K
    show hBld z (fillC ps) cl R s K = _
    unfold hBld; simp only [fillX hR hz]; try rfl
  | .mkf f a b, _, hcv, h => by
    obtain ⟨h0, hz⟩ := and2 h
    intro s K
    have e : ∀ k', svB (R3 R) (.mkf f a b) = svB (fun _ => none) k' → hGen (.mkf f a b) cl R s K = vGen k' (fun v => K v s) := by intro k' e; unfold hGen vGen; rw [e]
    refine e _ ?_
    simp only [svB]; simp only [evSX hR h0, evSX hR hz]; try simp only [evSC]
    try rfl
  | .slt x lo hi s_, _, hcv, h => by
    obtain ⟨h0, hz⟩ := and2 h
    obtain ⟨h1, hz⟩ := and2 hz
    intro s K; show evC x R (fun v => sltA v R (optI lo) (optI hi) _ fun v => K v s) = _; rw [evX hR h0]; exact sltX hR h1 hz _ _ _
  | .sls x lo hi, _, hcv, h => by
    obtain ⟨h0, hz⟩ := and2 h
    obtain ⟨h1, hz⟩ := and2 hz
    intro s K
    have e : ∀ k', svB (R3 R) (.sls x lo hi) = svB (fun _ => none) k' → hGen (.sls x lo hi) cl R s K = vGen k' (fun v => K v s) := by intro k' e; unfold hGen vGen; rw [e]
    refine e _ ?_
    simp only [svB]; simp only [evR3 hR h0, evIX hR h1, evIX hR hz]; try simp only [ev]
    try rfl
  | .b2s x, _, hcv, h => by
    have hz : okX ρ x = true := h
    intro s K
    show hB2s (evC x) cl R s K = _
    unfold hB2s; simp only [evX hR hz]; try rfl
  | .box x, _, hcv, h => by
    have hz : okX ρ x = true := h
    intro s K
    show hTbox (evC x) cl R s K = _
    unfold hTbox; simp only [evX hR hz]; try rfl
  | .bsl z s_ n ps, _, hcv, h => by
    have hz : okP ρ ps = true := h
    intro s K
    show hBsl z _ n (fillC ps) cl R s K = _
    unfold hBsl; simp only [fillX hR hz]; try rfl
  | .call x a, _, hcv, h => by
    obtain ⟨h0, hz⟩ := and2 h
    intro s K
    have v1 : hCallV (evC x) (evL a) cl R s K = zCallV cl (xvE ρ x) (xsE ρ a) s K := by unfold hCallV; simp only [evX hR h0, evLX hR hz]; rfl
    cases x with
    | r t => exact v1
    | c u =>
      cases u with
      | fn g f1 c1 =>
        cases f1 with
        | nil =>
          cases c1 with
          | nil => show evL a R (fun vs => cl (toD4 g) vs s K) = _; rw [evLX hR hz]; rfl
          | cons _ _ => exact v1
        | cons _ _ => exact v1
      | _ => exact v1
  | .mnx m l, _, hcv, h => by
    have hz : okXs ρ l = true := h
    intro s K
    have e : ∀ k', svB (R3 R) (.mnx m l) = svB (fun _ => none) k' → hGen (.mnx m l) cl R s K = vGen k' (fun v => K v s) := by intro k' e; unfold hGen vGen; rw [e]
    refine e _ ?_
    simp only [svB]; simp only [evSX hR hz]; try simp only [evSC]
    try rfl
  | .raw, _, _, _ => by
    intro s K
    rfl
  | .hbox e x, _, hcv, h => by
    have hz : okX ρ x = true := h
    intro s K
    show hBox e (evC x) cl R s K = _
    unfold hBox; simp only [evX hR hz]; try rfl
  | .alc e z, _, _, _ => by
    intro s K
    show hAlc e z cl R s K = _
    rfl
  | .st x v n, _, hcv, h => by
    obtain ⟨h0, hz⟩ := and2 h
    intro s K
    show hSt (evC x) (evC v) n cl R s K = _
    unfold hSt; simp only [evX hR h0, evX hR hz]; try rfl
  | .app s_ b x y, _, hcv, h => by
    obtain ⟨h0, hz⟩ := and2 h
    intro s K
    show hApp _ b (evC x) (evC y) cl R s K = _
    unfold hApp; simp only [evX hR h0, evX hR hz]; try rfl
  | .apps s_ b x y, _, hcv, h => by
    obtain ⟨h0, hz⟩ := and2 h
    intro s K
    show hAps _ b (evC x) (evC y) cl R s K = _
    unfold hAps; simp only [evX hR h0, evX hR hz]; try rfl
  | .appT s_ b x y, _, hcv, h => by
    obtain ⟨h0, hz⟩ := and2 h
    intro s K; show hApp _ _ (evC x) (evC y) cl R s (fun v s => frzC v s K) = _; unfold hApp; simp only [evX hR h0, evX hR hz]; try rfl
  | .appsT s_ b x y, _, hcv, h => by
    obtain ⟨h0, hz⟩ := and2 h
    intro s K; show hAps _ _ (evC x) (evC y) cl R s (fun v s => frzC v s K) = _; unfold hAps; simp only [evX hR h0, evX hR hz]; try rfl
  | .appz s_ b z x y, _, hcv, h => by
    obtain ⟨h0, hz⟩ := and2 h
    intro s K
    show hApz _ b z (evC x) (evC y) cl R s K = _
    unfold hApz; simp only [evX hR h0, evX hR hz]; try rfl
  | .sla x n lo hi s_, _, hcv, h => by
    obtain ⟨h0, hz⟩ := and2 h
    obtain ⟨h1, hz⟩ := and2 hz
    intro s K
    show hSla (evC x) n (optI lo) (optI hi) _ cl R s K = _
    unfold hSla; simp only [evX hR h0, optX hR h1, optX hR hz]; try rfl
  | .cvs x, _, hcv, h => by
    have hz : okX ρ x = true := h
    intro s K
    show hCvs (evC x) cl R s K = _
    unfold hCvs; simp only [evX hR hz]; try rfl
  | .ixs x i, _, hcv, h => by
    obtain ⟨h0, hz⟩ := and2 h
    intro s K
    show hIxs (evC x) (evC i) cl R s K = _
    unfold hIxs; simp only [evX hR h0, evX hR hz]; try rfl
  | .ixa x i n s_ g, _, hcv, h => by
    obtain ⟨h0, hz⟩ := and2 h
    intro s K
    have e : ∀ k', svB (R3 R) (.ixa x i n s_ g) = svB (fun _ => none) k' → hGen (.ixa x i n s_ g) cl R s K = vGen k' (fun v => K v s) := by intro k' e; unfold hGen vGen; rw [e]
    refine e _ ?_
    cases g <;> (simp only [svB]; simp only [evR3 hR h0, evR3 hR hz]; simp only [ev]; try rfl)
    try rfl
  | .cpy s_ x y, _, hcv, h => by
    obtain ⟨h0, hz⟩ := and2 h
    intro s K
    show hCpy _ (evC x) (evC y) cl R s K = _
    unfold hCpy; simp only [evX hR h0, evX hR hz]; try rfl
  | .hbs z s_ n ps, _, hcv, h => by
    have hz : okP ρ ps = true := h
    intro s K
    show hHbs z _ n (fillC ps) cl R s K = _
    unfold hHbs; simp only [fillX hR hz]; try rfl
  | .mks ro z s_ b x y, _, hcv, h => by
    obtain ⟨h0, hz⟩ := and2 h
    intro s K
    show hMks ro z _ b (evC x) (evC y) cl R s K = _
    unfold hMks; simp only [evX hR h0, evX hR hz]; try rfl
  | .s2b ro x, _, hcv, h => by
    have hz : okX ρ x = true := h
    intro s K
    show hS2b ro (evC x) cl R s K = _
    unfold hS2b; simp only [evX hR hz]; try rfl
  | .mkm, _, _, _ => by
    intro s K
    show hMkm  cl R s K = _
    rfl
  | .lku q z x y ok, _, hcv, h => by
    obtain ⟨h0, hz⟩ := and2 h
    intro s K
    show hLku q z (evC x) (evC y) ok cl R s K = _
    unfold hLku; simp only [evX hR h0, evX hR hz]; try rfl
  | .mup q x y v, _, hcv, h => by
    obtain ⟨h0, hz⟩ := and2 h
    obtain ⟨h1, hz⟩ := and2 hz
    intro s K
    show hMup q (evC x) (evC y) (evC v) cl R s K = _
    unfold hMup; simp only [evX hR h0, evX hR h1, evX hR hz]; try rfl
  | .eqs n o x y, _, hcv, h => by
    obtain ⟨h0, hz⟩ := and2 h
    intro s K
    have e : ∀ k', svB (R3 R) (.eqs n o x y) = svB (fun _ => none) k' → hGen (.eqs n o x y) cl R s K = vGen k' (fun v => K v s) := by intro k' e; unfold hGen vGen; rw [e]
    refine e _ ?_
    simp only [svB]; simp only [evR3 hR h0, evR3 hR hz]; try simp only [ev]
    try rfl
  | .mif t x, _, hcv, h => by
    have hz : okX ρ x = true := h
    intro s K
    show hMif t (evC x) cl R s K = _
    unfold hMif; simp only [evX hR hz]; try rfl
  | .tas t ok x, _, hcv, h => by
    have hz : okX ρ x = true := h
    intro s K
    show hTas t ok (evC x) cl R s K = _
    unfold hTas; simp only [evX hR hz]; try rfl
  | .inv l x a, _, hcv, h => by
    obtain ⟨h0, hz⟩ := and2 h
    intro s K
    show hInv l (evC x) (evL a) cl R s K = _
    unfold hInv; simp only [evX hR h0, evLX hR hz]; try rfl
  | .clr s_ z x, _, hcv, h => by
    have hz : okX ρ x = true := h
    intro s K
    show hClr _ z (evC x) cl R s K = _
    unfold hClr; simp only [evX hR hz]; try rfl
end
end Go.Abs
