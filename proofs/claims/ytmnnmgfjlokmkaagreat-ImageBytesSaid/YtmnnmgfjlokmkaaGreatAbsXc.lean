import Derived.Test.YtmnnmgfjlokmkaaGreatAbsX
import Derived.Test.YtmnnmgfjlokmkaaGreatAbsEHf
section
namespace Go.Abs
def EnvOK (ρ : EV) (rg : Nat → AV) : Prop := ∀ t v, lkE t ρ = some v → rg t = v
def EnvR (ρ : EV) (R : RG) : Prop := ∀ t v, t ≤ 511 → lkE t ρ = some v → lookT R t = v
def mkR1 (rg : Nat → AV) (b : Nat) : N8 AV := ⟨rg b, rg (b + 1), rg (b + 2), rg (b + 3), rg (b + 4), rg (b + 5), rg (b + 6), rg (b + 7)⟩
def mkR2 (rg : Nat → AV) (b : Nat) : N8 (N8 AV) := ⟨mkR1 rg b, mkR1 rg (b + 8), mkR1 rg (b + 16), mkR1 rg (b + 24), mkR1 rg (b + 32), mkR1 rg (b + 40), mkR1 rg (b + 48), mkR1 rg (b + 56)⟩
def mkR (rg : Nat → AV) : RG := ⟨mkR2 rg 0, mkR2 rg 64, mkR2 rg 128, mkR2 rg 192, mkR2 rg 256, mkR2 rg 320, mkR2 rg 384, mkR2 rg 448⟩
theorem sel8 {β : Type} {d : Nat} {f : Nat → β} (hd : d < 8) : sel d (⟨f 0, f 1, f 2, f 3, f 4, f 5, f 6, f 7⟩ : N8 β) = f d := by
  obtain rfl | rfl | rfl | rfl | rfl | rfl | rfl | rfl : d = 0 ∨ d = 1 ∨ d = 2 ∨ d = 3 ∨ d = 4 ∨ d = 5 ∨ d = 6 ∨ d = 7 := by omega
  all_goals rfl
theorem mkR_regs (rg : Nat → AV) : Regs (mkR rg) rg := by
  intro t ht
  unfold lookT
  have h1 : sel (t / 64) (mkR rg) = mkR2 rg (64 * (t / 64)) := sel8 (f := fun d => mkR2 rg (64 * d)) (by omega)
  have h2 : ∀ b, sel (t / 8 % 8) (mkR2 rg b) = mkR1 rg (b + 8 * (t / 8 % 8)) := fun b => sel8 (f := fun d => mkR1 rg (b + 8 * d)) (by omega)
  have h3 : ∀ b, sel (t % 8) (mkR1 rg b) = rg (b + t % 8) := fun b => sel8 (f := fun d => rg (b + d)) (by omega)
  rw [h1, h2, h3]
  congr 1
  omega
theorem EnvOK.r {ρ : EV} {rg : Nat → AV} (h : EnvOK ρ rg) : EnvR ρ (mkR rg) := fun t v ht hv => by
  rw [← mkR_regs rg t ht]
  exact h t v hv
section
variable {ρ : EV} {R : RG}
theorem okR_el {t : Nat} (h : okR ρ t = true) : t ≤ 511 ∧ lkE t ρ = some (xrE ρ t) := by
  unfold okR at h
  cases h1 : Nat.ble t 511 with
  | false => rw [h1] at h; cases h
  | true =>
    rw [h1] at h
    cases h2 : lkE t ρ with
    | none => rw [h2] at h; cases h
    | some v => exact ⟨ble_le h1, by unfold xrE; rw [h2]⟩
theorem lookR (hR : EnvR ρ R) {t : Nat} (h : okR ρ t = true) : lookT R t = xrE ρ t := hR t _ (okR_el h).1 (okR_el h).2
theorem xT_ev (hR : EnvR ρ R) {t : Nat} (h : okR ρ t = true) (k : AV → RT) : xT t R k = k (xrE ρ t) := by
  rw [← lookR hR h]
  have ht := (okR_el h).1
  unfold xT
  rw [Nat.ble_eq_true_of_le ht]
  show x3 _ _ _ R k = _
  unfold x3
  simp only [sg_eq]
  rfl
theorem evX (hR : EnvR ρ R) {x : SX} (h : okX ρ x = true) (k : AV → RT) : evC x R k = k (xvE ρ x) := by
  cases x with
  | r t => exact xT_ev hR h k
  | c v => rfl
theorem evR3 (hR : EnvR ρ R) {x : SX} (h : okX ρ x = true) : ev (R3 R) x = some (xvE ρ x) := by
  cases x with
  | r t =>
    show R3 R t = _
    unfold R3
    exact xT_ev hR h some
  | c v => rfl
theorem evLX (hR : EnvR ρ R) : ∀ {l : List SX} (_ : okXs ρ l = true) (k : List AV → RT), evL l R k = k (xsE ρ l)
  | [], _, _ => rfl
  | x :: l, h, k => by
    replace h : Bool.rec (motive := fun _ => Bool) false (okXs ρ l) (okX ρ x) = true := h
    cases h1 : okX ρ x with
    | false => rw [h1] at h; cases h
    | true =>
      rw [h1] at h
      show evC x R (fun v => evL l R fun vs => k (v :: vs)) = _
      rw [evX hR h1, evLX hR h]
      rfl
theorem evSX (hR : EnvR ρ R) : ∀ {l : List SX} (_ : okXs ρ l = true), evS (R3 R) l = some (xsE ρ l)
  | [], _ => rfl
  | x :: l, h => by
    replace h : Bool.rec (motive := fun _ => Bool) false (okXs ρ l) (okX ρ x) = true := h
    cases h1 : okX ρ x with
    | false => rw [h1] at h; cases h
    | true =>
      rw [h1] at h
      simp only [evS, evR3 hR h1, evSX hR h]
      rfl
theorem evSC {E : Lk} : ∀ {l : List SX}, evS E (csE ρ l) = some (xsE ρ l)
  | [] => rfl
  | x :: l => by
    show evS E (.c (xvE ρ x) :: csE ρ l) = _
    simp only [evS, ev, evSC]
    rfl
theorem optX (hR : EnvR ρ R) {o : Option SX} (h : okI ρ o = true) (d : Nat) (k : Nat → RT) : optI o R d k = oiE ρ o d k := by
  cases o with
  | none => rfl
  | some x => exact evX hR h _
theorem evIX (hR : EnvR ρ R) {o : Option SX} (h : okI ρ o = true) (d : Int) : evI (R3 R) d o = evI (fun _ => none) d (coE ρ o) := by
  cases o with
  | none => rfl
  | some x =>
    show (match ev (R3 R) x with | some (.int _ n) => some n | _ => none) = (match ev (fun _ => none) (.c (xvE ρ x)) with | some (.int _ n) => some n | _ => none)
    rw [evR3 hR h]
    rfl
theorem fillX (hR : EnvR ρ R) : ∀ {l : List (Nat × Nat × SX)} (_ : okP ρ l = true) (cs : List AV) (k : List AV → RT), fillC l R cs k = fillE ρ l cs k
  | [], _, _, _ => rfl
  | (o, s, x) :: l, h, cs, k => by
    replace h : Bool.rec (motive := fun _ => Bool) false (okP ρ l) (okX ρ x) = true := h
    cases h1 : okX ρ x with
    | false => rw [h1] at h; cases h
    | true =>
      rw [h1] at h
      show evC x R (fun v => partC v s o cs fun cs => fillC l R cs k) = partC (xvE ρ x) s o cs fun cs => fillE ρ l cs k
      rw [evX hR h1]
      congr 1
      funext cs'
      exact fillX hR h cs' k
theorem and2 {a b : Bool} (h : Bool.rec (motive := fun _ => Bool) false b a = true) : a = true ∧ b = true := by
  cases a with
  | false => cases h
  | true => exact ⟨rfl, h⟩
def DOK (d : DK3) (cl : CL) (R : RG) (kc : HK) : Prop := match d with
  | .known v => ∀ s K, kc cl R s K = K v s
  | .val h => ∀ s K, kc cl R s K = h (fun v => K v s)
  | .heap h => ∀ s K, kc cl R s K = h s K
theorem sltX (hR : EnvR ρ R) {lo hi : Option SX} (h1 : okI ρ lo = true) (h2 : okI ρ hi = true) (v : AV) (s : Nat) (K : AV → RT) : sltA v R (optI lo) (optI hi) s K = sltA v un3 (fun _ => oiE ρ lo) (fun _ => oiE ρ hi) s K := by
  have a1 : ∀ d k, optI lo R d k = oiE ρ lo d k := optX hR h1
  have a2 : ∀ d k, optI hi R d k = oiE ρ hi d k := optX hR h2
  cases v with
  | nil k => cases k <;> first | rfl | (show optI lo R 0 _ = oiE ρ lo 0 _; rw [a1]; congr 1; funext l; exact a2 0 _)
  | sl id off len sz => show optI lo R 0 _ = oiE ρ lo 0 _; rw [a1]; congr 1; funext l; exact a2 len _
  | tsl cs len => show optI lo R 0 _ = oiE ρ lo 0 _; rw [a1]; congr 1; funext l; exact a2 len _
  | _ => rfl
theorem kdC (hR : EnvR ρ R) (cl : CL) : ∀ {k : SK}, (∀ op x y, k = .bin op x y → op ≠ .rem ∧ askQ ρ (opN op) = false) → (∀ kd x, k = .cv kd x → askQ ρ 20 = false) → okK ρ k = true → DOK (kD0 cl ρ k) cl R (kC k)
  | .mv x, _, hcv, h => by
    have hz : okX ρ x = true := h
    intro s K
    show hMv (evC x) cl R s K = _
    unfold hMv; simp only [evX hR hz]; try rfl
  | .pick c a b, _, hcv, h => by
    obtain ⟨h0, hz⟩ := and2 h
    obtain ⟨h1, hz⟩ := and2 hz
    intro s K
    show hPick (evC c) (evC a) (evC b) cl R s K = _
    unfold hPick; simp only [evX hR h0, evX hR h1, evX hR hz]; try rfl
  | .bin op x y, hn, hcv, h => by
    obtain ⟨h0, hz⟩ := and2 h
    obtain ⟨h1, h2⟩ := hn _ _ _ rfl
    show DOK (binD cl ρ op (regX x) (xvE ρ x) (xvE ρ y)) _ _ _
    unfold binD
    rw [h2]
    cases op <;> first
      | exact absurd rfl h1
      | (intro s K; show hB (binC _) (evC x) (evC y) cl R s K = _; unfold hB; simp only [evX hR h0, evX hR hz]; try rfl)
  | .beq n x y, _, hcv, h => by
    obtain ⟨h0, hz⟩ := and2 h
    intro s K
    show hBeq n (evC x) (evC y) cl R s K = _
    unfold hBeq; simp only [evX hR h0, evX hR hz]; try rfl
  | .isnil n k x, _, hcv, h => by
    have hz : okX ρ x = true := h
    intro s K
    show hNil n k (evC x) cl R s K = _
    unfold hNil; simp only [evX hR hz]; try rfl
  | .un o x, _, hcv, h => by
    have hz : okX ρ x = true := h
    intro s K
    have e : ∀ k', svB (R3 R) (.un o x) = svB (fun _ => none) k' → hGen (.un o x) cl R s K = vGen k' (fun v => K v s) := by intro k' e; unfold hGen vGen; rw [e]
    refine e _ ?_
    simp only [svB]; simp only [evR3 hR hz]; try simp only [ev]
    try rfl
  | .fa x o, _, hcv, h => by
    have hz : okX ρ x = true := h
    intro s K
    show hFa (evC x) o cl R s K = _
    unfold hFa; simp only [evX hR hz]; try rfl
  | .ia x i n s_, _, hcv, h => by
    obtain ⟨h0, hz⟩ := and2 h
    cases n with
    | none => intro s K; show hIaS (evC x) (evC i) s_ cl R s K = _; unfold hIaS; simp only [evX hR h0, evX hR hz]; try rfl
    | some n => intro s K; show hIaN (evC x) (evC i) n s_ cl R s K = _; unfold hIaN; simp only [evX hR h0, evX hR hz]; try rfl
  | .ld x m, _, hcv, h => by
    have hz : okX ρ x = true := h
    intro s K
    show hLd (evC x) (takeC m) cl R s K = _
    unfold hLd; simp only [evX hR hz]; try rfl
  | .fld x o m, _, hcv, h => by
    have hz : okX ρ x = true := h
    intro s K
    show hFld (evC x) o (takeC m) cl R s K = _
    unfold hFld; simp only [evX hR hz]; try rfl
  | .ext x i, _, hcv, h => by
    have hz : okX ρ x = true := h
    intro s K
    show hExt (evC x) i cl R s K = _
    unfold hExt; simp only [evX hR hz]; try rfl
  | .len x n, _, hcv, h => by
    have hz : okX ρ x = true := h
    cases n with
    | none => intro s K; show hLenS (evC x) cl R s K = _; unfold hLenS; simp only [evX hR hz]; try rfl
    | some n => intro s K; show hLenN (evC x) n cl R s K = _; unfold hLenN; simp only [evX hR hz]; try rfl
  | .lens x, _, hcv, h => by
    have hz : okX ρ x = true := h
    intro s K
    show hLens (evC x) cl R s K = _
    unfold hLens; simp only [evX hR hz]; try rfl
  | .cv k x, _, hcv, h => by
    have hz : okX ρ x = true := h
    show DOK (cvD cl ρ k (regX x) (xvE ρ x)) _ _ _
    unfold cvD
    rw [hcv _ _ rfl]
    intro s K
    show hCv k (evC x) cl R s K = _
    unfold hCv; simp only [evX hR hz]; try rfl
  | .ss x, _, hcv, h => by
    have hz : okX ρ x = true := h
    intro s K
    have e : ∀ k', svB (R3 R) (.ss x) = svB (fun _ => none) k' → hGen (.ss x) cl R s K = vGen k' (fun v => K v s) := by intro k' e; unfold hGen vGen; rw [e]
    refine e _ ?_
    simp only [svB]; simp only [evR3 hR hz]; try simp only [ev]
    try rfl
  | .chk x, _, hcv, h => by
    have hz : okX ρ x = true := h
    intro s K
    show hChk (evC x) cl R s K = _
    unfold hChk; simp only [evX hR hz]; try rfl
  | .bld z ps, _, hcv, h => by
    have hz : okP ρ ps = true := h
    intro s K
    show hBld z (fillC ps) cl R s K = _
    unfold hBld; simp only [fillX hR hz]; try rfl
  | .mkf f a b, _, hcv, h => by
    obtain ⟨h0, hz⟩ := and2 h
    intro s K
    have e : ∀ k', svB (R3 R) (.mkf f a b) = svB (fun _ => none) k' → hGen (.mkf f a b) cl R s K = vGen k' (fun v => K v s) := by intro k' e; unfold hGen vGen; rw [e]
    refine e _ ?_
    simp only [svB]; simp only [evSX hR h0, evSX hR hz]; try simp only [evSC]
    try rfl
  | .slt x lo hi s_, _, hcv, h => by
    obtain ⟨h0, hz⟩ := and2 h
    obtain ⟨h1, hz⟩ := and2 hz
    intro s K; show evC x R (fun v => sltA v R (optI lo) (optI hi) _ fun v => K v s) = _; rw [evX hR h0]; exact sltX hR h1 hz _ _ _
  | .sls x lo hi, _, hcv, h => by
    obtain ⟨h0, hz⟩ := and2 h
    obtain ⟨h1, hz⟩ := and2 hz
    intro s K
    have e : ∀ k', svB (R3 R) (.sls x lo hi) = svB (fun _ => none) k' → hGen (.sls x lo hi) cl R s K = vGen k' (fun v => K v s) := by intro k' e; unfold hGen vGen; rw [e]
    refine e _ ?_
    simp only [svB]; simp only [evR3 hR h0, evIX hR h1, evIX hR hz]; try simp only [ev]
    try rfl
  | .b2s x, _, hcv, h => by
    have hz : okX ρ x = true := h
    intro s K
    show hB2s (evC x) cl R s K = _
    unfold hB2s; simp only [evX hR hz]; try rfl
  | .box x, _, hcv, h => by
    have hz : okX ρ x = true := h
    intro s K
    show hTbox (evC x) cl R s K = _
    unfold hTbox; simp only [evX hR hz]; try rfl
  | .bsl z s_ n ps, _, hcv, h => by
    have hz : okP ρ ps = true := h
    intro s K
    show hBsl z _ n (fillC ps) cl R s K = _
    unfold hBsl; simp only [fillX hR hz]; try rfl
  | .call x a, _, hcv, h => by
    obtain ⟨h0, hz⟩ := and2 h
    intro s K
    have v1 : hCallV (evC x) (evL a) cl R s K = zCallV cl (xvE ρ x) (xsE ρ a) s K := by unfold hCallV; simp only [evX hR h0, evLX hR hz]; rfl
    cases x with
    | r t => exact v1
    | c u =>
      cases u with
      | fn g f1 c1 =>
        cases f1 with
        | nil =>
          cases c1 with
          | nil => show evL a R (fun vs => cl (toD4 g) vs s K) = _; rw [evLX hR hz]; rfl
          | cons _ _ => exact v1
        | cons _ _ => exact v1
      | _ => exact v1
  | .mnx m l, _, hcv, h => by
    have hz : okXs ρ l = true := h
    intro s K
    have e : ∀ k', svB (R3 R) (.mnx m l) = svB (fun _ => none) k' → hGen (.mnx m l) cl R s K = vGen k' (fun v => K v s) := by intro k' e; unfold hGen vGen; rw [e]
    refine e _ ?_
    simp only [svB]; simp only [evSX hR hz]; try simp only [evSC]
    try rfl
  | .raw, _, _, _ => by
    intro s K
    rfl
  | .hbox e x, _, hcv, h => by
    have hz : okX ρ x = true := h
    intro s K
    show hBox e (evC x) cl R s K = _
    unfold hBox; simp only [evX hR hz]; try rfl
  | .alc e z, _, _, _ => by
    intro s K
    show hAlc e z cl R s K = _
    rfl
  | .st x v n, _, hcv, h => by
    obtain ⟨h0, hz⟩ := and2 h
    intro s K
    show hSt (evC x) (evC v) n cl R s K = _
    unfold hSt; simp only [evX hR h0, evX hR hz]; try rfl
  | .app s_ b x y, _, hcv, h => by
    obtain ⟨h0, hz⟩ := and2 h
    intro s K
    show hApp _ b (evC x) (evC y) cl R s K = _
    unfold hApp; simp only [evX hR h0, evX hR hz]; try rfl
  | .apps s_ b x y, _, hcv, h => by
    obtain ⟨h0, hz⟩ := and2 h
    intro s K
    show hAps _ b (evC x) (evC y) cl R s K = _
    unfold hAps; simp only [evX hR h0, evX hR hz]; try rfl
  | .appT s_ b x y, _, hcv, h => by
    obtain ⟨h0, hz⟩ := and2 h
    intro s K; show hApp _ _ (evC x) (evC y) cl R s (fun v s => frzC v s K) = _; unfold hApp; simp only [evX hR h0, evX hR hz]; try rfl
  | .appsT s_ b x y, _, hcv, h => by
    obtain ⟨h0, hz⟩ := and2 h
    intro s K; show hAps _ _ (evC x) (evC y) cl R s (fun v s => frzC v s K) = _; unfold hAps; simp only [evX hR h0, evX hR hz]; try rfl
  | .appz s_ b z x y, _, hcv, h => by
    obtain ⟨h0, hz⟩ := and2 h
    intro s K
    show hApz _ b z (evC x) (evC y) cl R s K = _
    unfold hApz; simp only [evX hR h0, evX hR hz]; try rfl
  | .sla x n lo hi s_, _, hcv, h => by
    obtain ⟨h0, hz⟩ := and2 h
    obtain ⟨h1, hz⟩ := and2 hz
    intro s K
    show hSla (evC x) n (optI lo) (optI hi) _ cl R s K = _
    unfold hSla; simp only [evX hR h0, optX hR h1, optX hR hz]; try rfl
  | .cvs x, _, hcv, h => by
    have hz : okX ρ x = true := h
    intro s K
    show hCvs (evC x) cl R s K = _
    unfold hCvs; simp only [evX hR hz]; try rfl
  | .ixs x i, _, hcv, h => by
    obtain ⟨h0, hz⟩ := and2 h
    intro s K
    show hIxs (evC x) (evC i) cl R s K = _
    unfold hIxs; simp only [evX hR h0, evX hR hz]; try rfl
  | .ixa x i n s_ g, _, hcv, h => by
    obtain ⟨h0, hz⟩ := and2 h
    intro s K
    have e : ∀ k', svB (R3 R) (.ixa x i n s_ g) = svB (fun _ => none) k' → hGen (.ixa x i n s_ g) cl R s K = vGen k' (fun v => K v s) := by intro k' e; unfold hGen vGen; rw [e]
    refine e _ ?_
    cases g <;> (simp only [svB]; simp only [evR3 hR h0, evR3 hR hz]; simp only [ev]; try rfl)
    try rfl
  | .cpy s_ x y, _, hcv, h => by
    obtain ⟨h0, hz⟩ := and2 h
    intro s K
    show hCpy _ (evC x) (evC y) cl R s K = _
    unfold hCpy; simp only [evX hR h0, evX hR hz]; try rfl
  | .hbs z s_ n ps, _, hcv, h => by
    have hz : okP ρ ps = true := h
    intro s K
    show hHbs z _ n (fillC ps) cl R s K = _
    unfold hHbs; simp only [fillX hR hz]; try rfl
  | .mks ro z s_ b x y, _, hcv, h => by
    obtain ⟨h0, hz⟩ := and2 h
    intro s K
    show hMks ro z _ b (evC x) (evC y) cl R s K = _
    unfold hMks; simp only [evX hR h0, evX hR hz]; try rfl
  | .s2b ro x, _, hcv, h => by
    have hz : okX ρ x = true := h
    intro s K
    show hS2b ro (evC x) cl R s K = _
    unfold hS2b; simp only [evX hR hz]; try rfl
  | .mkm, _, _, _ => by
    intro s K
    show hMkm  cl R s K = _
    rfl
  | .lku q z x y ok, _, hcv, h => by
    obtain ⟨h0, hz⟩ := and2 h
    intro s K
    show hLku q z (evC x) (evC y) ok cl R s K = _
    unfold hLku; simp only [evX hR h0, evX hR hz]; try rfl
  | .mup q x y v, _, hcv, h => by
    obtain ⟨h0, hz⟩ := and2 h
    obtain ⟨h1, hz⟩ := and2 hz
    intro s K
    show hMup q (evC x) (evC y) (evC v) cl R s K = _
    unfold hMup; simp only [evX hR h0, evX hR h1, evX hR hz]; try rfl
  | .eqs n o x y, _, hcv, h => by
    obtain ⟨h0, hz⟩ := and2 h
    intro s K
    have e : ∀ k', svB (R3 R) (.eqs n o x y) = svB (fun _ => none) k' → hGen (.eqs n o x y) cl R s K = vGen k' (fun v => K v s) := by intro k' e; unfold hGen vGen; rw [e]
    refine e _ ?_
    simp only [svB]; simp only [evR3 hR h0, evR3 hR hz]; try simp only [ev]
    try rfl
  | .mif t x, _, hcv, h => by
    have hz : okX ρ x = true := h
    intro s K
    show hMif t (evC x) cl R s K = _
    unfold hMif; simp only [evX hR hz]; try rfl
  | .tas t ok x, _, hcv, h => by
    have hz : okX ρ x = true := h
    intro s K
    show hTas t ok (evC x) cl R s K = _
    unfold hTas; simp only [evX hR hz]; try rfl
  | .inv l x a, _, hcv, h => by
    obtain ⟨h0, hz⟩ := and2 h
    intro s K
    show hInv l (evC x) (evL a) cl R s K = _
    unfold hInv; simp only [evX hR h0, evLX hR hz]; try rfl
  | .clr s_ z x, _, hcv, h => by
    have hz : okX ρ x = true := h
    intro s K
    show hClr _ z (evC x) cl R s K = _
    unfold hClr; simp only [evX hR hz]; try rfl
end
end Go.Abs
end
section
namespace Go.Abs
theorem lkE_cons {d t : Nat} {v : AV} {ρ : EV} : lkE t ((d, v) :: ρ) = if t = d then some v else lkE t ρ := by
  show Bool.rec (motive := fun _ => Option AV) (lkE t ρ) (some v) (Nat.beq t d) = _
  cases h : Nat.beq t d with
  | true => rw [if_pos (beq_eq h)]
  | false => rw [if_neg (beq_ne h)]
theorem EnvOK.put {ρ : EV} {rg : Nat → AV} (h : EnvOK ρ rg) (d : Nat) (v : AV) : EnvOK ((d, v) :: ρ) (upd rg d v) := by
  intro t u e
  rw [lkE_cons] at e
  unfold upd
  split at e
  · rename_i ht
    rw [if_pos ht]
    exact Option.some.inj e
  · rename_i ht
    rw [if_neg ht]
    exact h t u e
section
variable {P : Program} {A : Ann} {f nt : Nat} {r : AV}
def ZOut (P : Program) (A : Ann) (f nt : Nat) (ops : Array Oper) (o0 : Oper) (o : SO) (ρ : EV) (fr : Fr) (s : HS) (h : Heap) (n : Nat) (K : AV → HS → RT) (r : AV) : Prop :=
  ∃ fr' v h' n' lg s', (∃ k0, ∀ k, k0 ≤ k → stepA (callN P A k) P A f nt ops o0 fr h n = some (fr', h', n', lg)) ∧ Nx (unb s) h n lg (unb s') h' n' ∧ s'.bx = fr'.boxes ∧ EnvOK (bindE o.dst v ρ) fr'.regs ∧ (∀ t, o.dst ≠ some t → fr'.regs t = fr.regs t) ∧ K v s' = some r
theorem zput_box {o0 : Oper} {v : AV} {s1 : HS} {fr : Fr} {d : Nat} (hd0 : o0.dst = some d) (hdn : d < nt) (hb1 : s1.bx = fr.boxes) : ∃ bxs, putA A f nt o0 v fr = some ⟨upd fr.regs d v, bxs⟩ ∧ (pushB A f o0 v s1).bx = bxs := by
  refine ⟨if isBox o0.op && !A.esc f d then (match v with | .ptr id _ => id :: fr.boxes | _ => fr.boxes) else fr.boxes, ?_, ?_⟩
  · unfold putA
    rw [hd0]
    simp only []
    rw [if_pos hdn]
    rfl
  · unfold pushB
    rw [hd0]
    simp only []
    split
    · cases v <;> first | exact hb1 | (show _ :: s1.bx = _ :: fr.boxes; rw [hb1])
    · exact hb1
theorem zput_ok {ops : Array Oper} {o0 : Oper} {o : SO} {cl : CL} {ρ : EV} {s : HS} {K : AV → HS → RT} {fr : Fr} {h : Heap} {n : Nat} (hc : CLok P A cl) (h1 : o.dst = o0.dst) (h2 : o.k = slAll P A f o0.dst o0.op) (hd : dokO nt o.dst = true) (hw : wantedA ops o0 fr.regs = some true)
    (hf : EnvOK ρ fr.regs) (hb : s.bx = fr.boxes) (hr : Rel s h n) (e : dZ (kD cl ρ o.k) s K = some r) : ZOut P A f nt ops o0 o ρ fr s h n K r := by
  have e' : kC o.k cl (mkR fr.regs) s K = some r := by
    unfold kD at e
    cases hk : okK ρ o.k with
    | false => rw [hk] at e; exact (nn e).elim
    | true =>
      rw [hk] at e
      replace e : dZ (kD0 cl ρ o.k) s K = some r := e
      by_cases hn : (∀ op x y, o.k = .bin op x y → op ≠ .rem ∧ askQ ρ (opN op) = false) ∧ ∀ kd x, o.k = .cv kd x → askQ ρ 20 = false
      · have hc := kdC hf.r cl hn.1 hn.2 hk
        cases hd0 : kD0 cl ρ o.k with
        | known v => rw [hd0] at e hc; rw [hc s K]; exact e
        | val h => rw [hd0] at e hc; rw [hc s K]; exact e
        | heap h => rw [hd0] at e hc; rw [hc s K]; exact e
      · have hx : (∃ op x y, o.k = .bin op x y ∧ (op = .rem ∨ askQ ρ (opN op) = true)) ∨ ∃ kd x, o.k = .cv kd x ∧ askQ ρ 20 = true := by
          by_cases h1 : ∃ kd x, o.k = .cv kd x ∧ askQ ρ 20 = true
          · exact .inr h1
          · refine .inl (Classical.byContradiction fun h2 => hn ⟨fun op x y hk => ?_, fun kd x hk => ?_⟩)
            · refine ⟨fun h => h2 ⟨op, x, y, hk, .inl h⟩, ?_⟩
              cases ha : askQ ρ (opN op) with
              | false => rfl
              | true => exact absurd ⟨op, x, y, hk, .inr ha⟩ h2
            · cases ha : askQ ρ 20 with
              | false => rfl
              | true => exact absurd ⟨kd, x, hk, ha⟩ h1
        rcases hx with ⟨op, x, y, hk', ho⟩ | ⟨kd, x, hk', ha⟩
        · rw [hk'] at e hk ⊢
          obtain ⟨h0, hz⟩ := and2 hk
          show hB (binC op) (evC x) (evC y) cl (mkR fr.regs) s K = some r
          unfold hB
          simp only [evX hf.r h0, evX hf.r hz]
          replace e : dZ (binD cl ρ op (regX x) (xvE ρ x) (xvE ρ y)) s K = some r := e
          unfold binD at e
          cases ha : askQ ρ (opN op) with
          | true =>
            rw [ha] at e
            replace e : cl .rem [xvE ρ x, xvE ρ y, .int .i64 (.ofNat (regX x)), .int .i64 (.ofNat (opN op))] s K = some r := e
            replace e := hc.2 _ _ _ _ e
            cases op <;> exact e
          | false =>
            rw [ha] at e
            rcases ho with rfl | ho
            · replace e : cl .rem [xvE ρ x, xvE ρ y, .int .i64 (.ofNat (regX x))] s K = some r := e
              exact hc.2 _ _ _ _ e
            · rw [ha] at ho; cases ho
        · rw [hk'] at e hk ⊢
          have h0 : okX ρ x = true := hk
          show hCv kd (evC x) cl (mkR fr.regs) s K = some r
          unfold hCv
          simp only [evX hf.r h0]
          replace e : dZ (cvD cl ρ kd (regX x) (xvE ρ x)) s K = some r := e
          unfold cvD at e
          rw [ha] at e
          replace e : cl .rem [xvE ρ x, .int kd (.ofNat 0), .int .i64 (.ofNat (regX x)), .int .i64 (.ofNat 20)] s K = some r := e
          exact hc.2 _ _ _ _ e
  obtain ⟨v, h', n', lg, s1, ⟨k0, hv⟩, nx, e2⟩ := kC_ok o.k _ cl o0 (mkR fr.regs) s _ fr.regs h n hc h2 (mkR_regs _) hr e'
  have fin : ∀ {fr'}, putA A f nt o0 v fr = some fr' → ∃ k0, ∀ k, k0 ≤ k → stepA (callN P A k) P A f nt ops o0 fr h n = some (fr', h', n', lg) := by
    intro fr' hp
    refine ⟨k0, fun k hk => ?_⟩
    unfold stepA
    rw [hw]
    simp only [AM.bind]
    rw [hv k hk]
    simp only [hp]
    simp [AM.lift, AM.pure]
  cases hdst : o.dst with
  | none =>
    have hp : pushB A f o0 v s1 = s1 := by unfold pushB; rw [← h1, hdst]
    rw [hp] at e2
    refine ⟨fr, v, h', n', lg, s1, fin (by unfold putA; rw [← h1, hdst]), nx.ub, by rw [nx.bx]; exact hb, ?_, fun _ _ => rfl, e2⟩
    rw [hdst]
    exact hf
  | some d =>
    rw [hdst] at hd
    have hdn : d < nt := ble_le hd
    have hd0 : o0.dst = some d := h1.symm.trans hdst
    obtain ⟨bxs, hp, hbx⟩ := zput_box (A := A) (f := f) (nt := nt) (v := v) hd0 hdn (show s1.bx = fr.boxes by rw [nx.bx]; exact hb)
    refine ⟨⟨upd fr.regs d v, bxs⟩, v, h', n', lg, _, fin hp, ?_, hbx, ?_, ?_, e2⟩
    · rw [ub_push]
      exact nx.ub
    · rw [hdst]
      exact hf.put d v
    · intro t ht
      rw [hdst] at ht
      show upd fr.regs d v t = _
      unfold upd
      rw [if_neg (fun e => ht (by rw [e]))]
theorem zund_ok {ops : Array Oper} {o0 : Oper} {o : SO} {ρ : EV} {s : HS} {K : AV → HS → RT} {fr : Fr} {h : Heap} {n : Nat} (h1 : o.dst = o0.dst) (hd : dokO nt o.dst = true) (hw : wantedA ops o0 fr.regs = some false)
    (hf : EnvOK ρ fr.regs) (hb : s.bx = fr.boxes) (hr : Rel s h n) (e : K .undef s = some r) : ZOut P A f nt ops o0 o ρ fr s h n K r := by
  cases hdst : o.dst with
  | none =>
    refine ⟨fr, .undef, h, n, ([], []), s, ⟨0, fun k _ => ?_⟩, Nx.refl hr.ub, hb, by rw [hdst]; exact hf, fun _ _ => rfl, e⟩
    unfold stepA
    rw [hw, ← h1, hdst]
    rfl
  | some d =>
    rw [hdst] at hd
    refine ⟨{ fr with regs := upd fr.regs d .undef }, .undef, h, n, ([], []), s, ⟨0, fun k _ => ?_⟩, Nx.refl hr.ub, hb, by rw [hdst]; exact hf.put d _, ?_, e⟩
    · unfold stepA
      rw [hw, ← h1, hdst]
      simp only []
      rw [if_pos (show d < nt from ble_le hd)]
      rfl
    · intro t ht
      rw [hdst] at ht
      show upd fr.regs d .undef t = _
      unfold upd
      rw [if_neg (fun e => ht (by rw [e]))]
theorem wantV_el {v : AV} {w : Bool} {y n : RT} (e : wantV v w y n = some r) : (∃ b, v = .bool b ∧ ((b == w) = true ∧ y = some r ∨ (b == w) = false ∧ n = some r)) ∨ (v = .tup [] ∧ n = some r) := by
  cases v with
  | bool b =>
    replace e : Bool.rec (motive := fun _ => RT) n y (eqB b w) = some r := e
    rw [eqB_eq] at e
    rcases br_b e with ⟨hb, e⟩ | ⟨hb, e⟩
    · exact .inl ⟨b, rfl, .inr ⟨hb, e⟩⟩
    · exact .inl ⟨b, rfl, .inl ⟨hb, e⟩⟩
  | tup l =>
    cases l with
    | nil => exact .inr ⟨rfl, e⟩
    | cons _ _ => exact (nn e).elim
  | _ => exact (nn e).elim
theorem stepZ_ok {ops : Array Oper} {o0 : Oper} {o : SO} {cl : CL} {ρ : EV} {s : HS} {K : AV → HS → RT} {fr : Fr} {h : Heap} {n : Nat} (hc : CLok P A cl) (ho : slO P A f ops o0 = some o) (hd : dokO nt o.dst = true)
    (hf : EnvOK ρ fr.regs) (hb : s.bx = fr.boxes) (hr : Rel s h n) (e : stepZ cl o ρ s K = some r) : ZOut P A f nt ops o0 o ρ fr s h n K r := by
  obtain ⟨h1, h2, h3⟩ := slO_some ho
  obtain ⟨dst, g, k⟩ := o
  rcases h3 with ⟨g1, g2⟩ | ⟨j, w, e', g1, g2, g3⟩
  · simp only at g2
    subst g2
    exact zput_ok (o := ⟨dst, none, k⟩) hc h1 h2 hd (by unfold wantedA; rw [g1]) hf hb hr e
  · simp only at g2
    subst g2
    cases hk : okR ρ e' with
    | false =>
      replace e : (Bool.rec (motive := fun _ => ZK) (fun _ _ => none) (zG (xrE ρ e') w (dZ (kD cl ρ k))) (okR ρ e') : ZK) s K = some r := e
      rw [hk] at e
      exact (nn e).elim
    | true =>
      replace e : (Bool.rec (motive := fun _ => ZK) (fun _ _ => none) (zG (xrE ρ e') w (dZ (kD cl ρ k))) (okR ρ e') : ZK) s K = some r := e
      rw [hk] at e
      replace e : wantV (xrE ρ e') w (dZ (kD cl ρ k) s K) (K .undef s) = some r := e
      have hreg : fr.regs e' = xrE ρ e' := hf _ _ (okR_el hk).2
      have hw : wantedA ops o0 fr.regs = (match xrE ρ e' with
        | .bool b => some (b == w)
        | .tup [] => some false
        | _ => none) := by
        unfold wantedA
        rw [g1]
        simp only [g3, hreg]
        rfl
      rcases wantV_el e with ⟨b, hv, ⟨hbw, e⟩ | ⟨hbw, e⟩⟩ | ⟨hv, e⟩
      · rw [hv] at hw
        simp only [hbw] at hw
        exact zput_ok (o := ⟨dst, some (e', w), k⟩) hc h1 h2 hd hw hf hb hr e
      · rw [hv] at hw
        simp only [hbw] at hw
        exact zund_ok (o := ⟨dst, some (e', w), k⟩) h1 hd hw hf hb hr e
      · rw [hv] at hw
        exact zund_ok (o := ⟨dst, some (e', w), k⟩) h1 hd hw hf hb hr e
theorem stepE_Z {cl : CL} {o : SO} {ρ : EV} {s : HS} {K : EV → HS → RT} (e : stepE cl o ρ s K = some r) : stepZ cl o ρ s (fun v s => K (bindE o.dst v ρ) s) = some r := by
  obtain ⟨dst, g, k⟩ := o
  cases g with
  | none =>
    replace e : DK3.rec (motive := fun _ => RT) (fun v => K (bindE dst v ρ) s) (fun h => h fun v => K (bindE dst v ρ) s) (fun h => h s fun v s => K (bindE dst v ρ) s) (kD cl ρ k) = some r := e
    show dZ (kD cl ρ k) s _ = some r
    cases hd : kD cl ρ k <;> (rw [hd] at e; exact e)
  | some g =>
    replace e : Bool.rec (motive := fun _ => RT) none (DK3.rec (motive := fun _ => RT) (fun u => gK (xrE ρ g.1) g.2 u fun v => K (bindE dst v ρ) s) (fun h => gV (xrE ρ g.1) g.2 h fun v => K (bindE dst v ρ) s) (fun h => gH (xrE ρ g.1) g.2 h s fun v s => K (bindE dst v ρ) s) (kD cl ρ k)) (okR ρ g.1) = some r := e
    show (Bool.rec (motive := fun _ => ZK) (fun _ _ => none) (zG (xrE ρ g.1) g.2 (dZ (kD cl ρ k))) (okR ρ g.1) : ZK) s _ = some r
    cases hk : okR ρ g.1 with
    | false => rw [hk] at e; exact (nn e).elim
    | true =>
      rw [hk] at e
      cases hd : kD cl ρ k <;> (rw [hd] at e; exact e)
theorem opsE_ok {ops : Array Oper} {cl : CL} (hc : CLok P A cl) : ∀ {l0 : List Oper} {l : List SO} {ρ : EV} {s : HS} {K : EV → HS → RT} {fr : Fr} {h : Heap} {n : Nat}, slOs P A f ops l0 = some l → (l.all fun o => dokO nt o.dst) = true → EnvOK ρ fr.regs → s.bx = fr.boxes → Rel s h n → opsE cl l ρ s K = some r →
    ∃ fr' h' n' lgs ρ' s', (∃ k0, ∀ k, k0 ≤ k → runLog (callN P A k) P A f nt ops l0 fr h n = some (fr', h', n', lgs)) ∧ Nx (unb s) h n (joinLogs lgs) (unb s') h' n' ∧ EnvOK ρ' fr'.regs ∧ s'.bx = fr'.boxes ∧ (∀ t, t ∉ dstL l → fr'.regs t = fr.regs t) ∧ K ρ' s' = some r
  | [], l, ρ, s, K, fr, h, n, hl, hd, hf, hb, hr, e => by
    simp only [slOs, Option.some.injEq] at hl
    subst hl
    exact ⟨fr, h, n, [], ρ, s, ⟨0, fun k _ => rfl⟩, Nx.refl hr.ub, hf, hb, fun _ _ => rfl, e⟩
  | o0 :: l0, l, ρ, s, K, fr, h, n, hl, hd, hf, hb, hr, e => by
    simp only [slOs] at hl
    split at hl
    · rename_i o l' ho hl'
      simp only [Option.some.injEq] at hl
      subst hl
      simp only [List.all_cons, Bool.and_eq_true] at hd
      replace e : stepE cl o ρ s (fun ρ s => opsE cl l' ρ s K) = some r := e
      obtain ⟨fr1, v, h1, n1, lg1, s1, ⟨k1, c1⟩, nx1, hb1, hf1, hq1, e⟩ := stepZ_ok hc ho hd.1 hf hb hr (stepE_Z e)
      obtain ⟨fr2, h2, n2, lgs, ρ2, s2, ⟨k2, c2⟩, nx2, hf2, hb2, hq2, e⟩ := opsE_ok hc hl' hd.2 hf1 hb1 nx1.rel.bu e
      refine ⟨fr2, h2, n2, (lg1, n, n1) :: lgs, ρ2, s2, ⟨max k1 k2, fun k hk => ?_⟩, ?_, hf2, hb2, ?_, e⟩
      · unfold runLog
        rw [c1 k (by omega)]
        simp only
        rw [c2 k (by omega)]
      · have := nx1.trans nx2
        simpa [joinLogs] using this
      · intro t ht
        have ht : t ∉ dstL l' ∧ o.dst ≠ some t := by
          obtain ⟨dst, g, k⟩ := o
          cases dst with
          | none => exact ⟨ht, nofun⟩
          | some d =>
            replace ht : t ∉ d :: dstL l' := ht
            simp only [List.mem_cons, not_or] at ht
            exact ⟨ht.2, fun e => ht.1 (Option.some.inj e).symm⟩
        rw [hq2 t ht.1, hq1 t ht.2]
    · cases hl
theorem kQE_eq {ρ : EV} {R : RG} (hR : EnvR ρ R) {k : SK} (hk : okK ρ k = true) (K : Nat → Nat → Nat → RT) (no : RT) : kQ k R K no = kQE ρ k K no := by
  cases k with
  | ld x m => exact evX hR hk _
  | _ => rfl
theorem dZ_okK {cl : CL} {ρ : EV} {k : SK} {s : HS} {K : AV → HS → RT} (e : dZ (kD cl ρ k) s K = some r) : okK ρ k = true := by
  unfold kD at e
  cases hk : okK ρ k with
  | true => rfl
  | false => rw [hk] at e; exact (nn e).elim
theorem soQE_el {ops : Array Oper} {o0 : Oper} {o : SO} {cl : CL} {ρ : EV} {fr : Fr} {s : HS} {K0 : AV → HS → RT} (ho : slO P A f ops o0 = some o) (hf : EnvOK ρ fr.regs) (e0 : stepZ cl o ρ s K0 = some r) {r' : AV} {K : Nat → Nat → Nat → RT} {no : RT} (e : soQE ρ o K no = some r') :
    (∃ p : Nat × Nat × Nat, ldOf P A f ops o0 fr = some p ∧ K p.1 p.2.1 p.2.2 = some r') ∨ (ldOf P A f ops o0 fr = none ∧ no = some r') := by
  obtain ⟨h1, h2, h3⟩ := slO_some ho
  obtain ⟨dst, g, k⟩ := o
  rcases h3 with ⟨g1, g2⟩ | ⟨j, w, e', g1, g2, g3⟩
  · simp only at g2
    subst g2
    have hk : okK ρ k = true := dZ_okK e0
    refine kQ_el h2 (by unfold wantedA; rw [g1]) (mkR_regs fr.regs) ?_
    exact (kQE_eq hf.r hk K no).trans e
  · simp only at g2
    subst g2
    replace e0 : (Bool.rec (motive := fun _ => ZK) (fun _ _ => none) (zG (xrE ρ e') w (dZ (kD cl ρ k))) (okR ρ e') : ZK) s K0 = some r := e0
    cases hk : okR ρ e' with
    | false => rw [hk] at e0; exact (nn e0).elim
    | true =>
      rw [hk] at e0
      replace e0 : wantV (xrE ρ e') w (dZ (kD cl ρ k) s K0) (K0 .undef s) = some r := e0
      replace e : wantV (xrE ρ e') w (kQE ρ k K no) no = some r' := e
      have hreg : fr.regs e' = xrE ρ e' := hf _ _ (okR_el hk).2
      have hw : wantedA ops o0 fr.regs = (match xrE ρ e' with
        | .bool b => some (b == w)
        | .tup [] => some false
        | _ => none) := by
        unfold wantedA
        rw [g1]
        simp only [g3, hreg]
        rfl
      rcases wantV_el e with ⟨b, hv, ⟨hbw, e⟩ | ⟨hbw, e⟩⟩ | ⟨hv, e⟩
      · rw [hv] at hw e0
        simp only [hbw] at hw
        have hk2 : okK ρ k = true := by
          rcases wantV_el e0 with ⟨b', hv', ⟨_, e0⟩ | ⟨hb', _⟩⟩ | ⟨hv', _⟩
          · exact dZ_okK e0
          · cases hv'
            rw [hbw] at hb'
            cases hb'
          · cases hv'
        refine kQ_el h2 hw (mkR_regs fr.regs) ?_
        exact (kQE_eq hf.r hk2 K no).trans e
      · rw [hv] at hw
        simp only [hbw] at hw
        exact .inr ⟨ldOf_none (by rw [hw]; simp), e⟩
      · rw [hv] at hw
        exact .inr ⟨ldOf_none (by rw [hw]; simp), e⟩
theorem lgE_ok {ops : Array Oper} {o0 : Oper} {o : SO} {cl : CL} {ρ : EV} {s : HS} {K : AV → LE → HS → RT} {fr : Fr} {h : Heap} {n : Nat} (hc : CLok P A cl) (ho : slO P A f ops o0 = some o) (hd : dokO nt o.dst = true)
    (hf : EnvOK ρ fr.regs) (hb : s.bx = fr.boxes) (hr : Rel s h n) (e : lgE (soQE ρ o) (stepZ cl o ρ) s K = some r) :
    ∃ fr' v h' n' lg le s', (∃ k0, ∀ k, k0 ≤ k → stepA (callN P A k) P A f nt ops o0 fr h n = some (fr', h', n', lg)) ∧ Nx (unb s) h n lg (unb s') h' n' ∧ LEok (lg, n, n') le ∧ LEh ⟨h, n, lg, ldOf P A f ops o0 fr, h', n'⟩ le ∧ s'.bx = fr'.boxes ∧ EnvOK (bindE o.dst v ρ) fr'.regs ∧ (∀ t, o.dst ≠ some t → fr'.regs t = fr.regs t) ∧ K v le s' = some r := by
  obtain ⟨H, m, bx, thr, rd, wr, mw⟩ := s
  have hm : m = n := hr.num
  subst hm
  replace e : stepZ cl o ρ ⟨H, m, bx, m, [], [], mw⟩ (fun v s' => HS.rec (motive := fun _ => RT) (fun h n' bx _ rd' wr' mw => mergeC rd' thr rd fun rd => mergeC wr' thr wr fun wr => K v ⟨rd', wr', m, n', soQE ρ o, H, h⟩ ⟨h, n', bx, thr, rd, wr, mw⟩) s') = some r := e
  have e0 := e
  obtain ⟨fr1, v, h1, n1, lg1, s1, hk, nx, hb1, hf1, hq1, e⟩ := stepZ_ok (s := ⟨H, m, bx, m, [], [], mw⟩) hc ho hd hf hb ⟨hr.look, hr.ok, hr.num, hr.mw, Nat.le_refl _⟩ e
  obtain ⟨H1, m1, bx1, thr1, rd1, wr1, mw1⟩ := s1
  replace e : mergeC rd1 thr rd (fun rd => mergeC wr1 thr wr fun wr => K v ⟨rd1, wr1, m, m1, soQE ρ o, H, H1⟩ ⟨H1, m1, bx1, thr, rd, wr, mw1⟩) = some r := e
  obtain ⟨rd2, a1, a2, e⟩ := mergeC_el e
  obtain ⟨wr2, b1, b2, e⟩ := mergeC_el e
  have hthr : thr ≤ m := hr.thr
  have hn1 : m1 = n1 := nx.rel.num
  refine ⟨fr1, v, h1, n1, lg1, ⟨rd1, wr1, m, m1, soQE ρ o, H, H1⟩, ⟨H1, m1, bx1, thr, rd2, wr2, mw1⟩, hk, ?_, ?_, ?_, hb1, hf1, hq1, e⟩
  · refine ⟨⟨nx.rel.look, nx.rel.ok, nx.rel.num, nx.rel.mw, Nat.le_trans hthr nx.le⟩, nx.le, rfl, rfl, ?_, ?_, nx.own, nx.mw, nx.mw2, nx.mwle, nx.frame⟩
    · rintro id (hi | ⟨hl, hi⟩)
      · exact a1 id hi
      · exact a2 id (nx.rd id (.inr ⟨Nat.lt_of_lt_of_le hl hthr, hi⟩)) hl
    · rintro id (hi | ⟨hl, hi⟩)
      · exact b1 id hi
      · exact b2 id (nx.wr id (.inr ⟨Nat.lt_of_lt_of_le hl hthr, hi⟩)) hl
  · exact ⟨rfl, hn1, nx.le, fun id hi hl => nx.rd id (.inr ⟨hl, hi⟩), fun id hi hl => nx.wr id (.inr ⟨hl, hi⟩), nx.own⟩
  · exact ⟨hr.look, nx.rel.look, fun K no r e => soQE_el ho hf e0 e⟩
theorem logE_ok {ops : Array Oper} {cl : CL} (hc : CLok P A cl) : ∀ {l0 : List Oper} {l : List SO} {ρ : EV} {s : HS} {K : List LE → EV → HS → RT} {fr : Fr} {h : Heap} {n : Nat}, slOs P A f ops l0 = some l → (l.all fun o => dokO nt o.dst) = true → EnvOK ρ fr.regs → s.bx = fr.boxes → Rel s h n → logE cl l ρ s K = some r →
    ∃ fr' h' n' cs es ρ' s', (∃ k0, ∀ k, k0 ≤ k → ChT (callN P A k) P A f nt ops l0 fr h n cs fr' h' n') ∧ Nx (unb s) h n (joinLogs (cs.map Ct.log)) (unb s') h' n' ∧ LEs n (cs.map Ct.log) es ∧ LEhs cs es ∧ EnvOK ρ' fr'.regs ∧ s'.bx = fr'.boxes ∧ (∀ t, t ∉ dstL l → fr'.regs t = fr.regs t) ∧ K es ρ' s' = some r
  | [], l, ρ, s, K, fr, h, n, hl, hd, hf, hb, hr, e => by
    simp only [slOs, Option.some.injEq] at hl
    subst hl
    exact ⟨fr, h, n, [], [], ρ, s, ⟨0, fun k _ => ⟨rfl, rfl, rfl⟩⟩, Nx.refl hr.ub, trivial, trivial, hf, hb, fun _ _ => rfl, e⟩
  | o0 :: l0, l, ρ, s, K, fr, h, n, hl, hd, hf, hb, hr, e => by
    simp only [slOs] at hl
    split at hl
    · rename_i o l' ho hl'
      simp only [Option.some.injEq] at hl
      subst hl
      simp only [List.all_cons, Bool.and_eq_true] at hd
      replace e : lgE (soQE ρ o) (stepZ cl o ρ) s (fun v le s => logE cl l' (bindE o.dst v ρ) s fun es ρ s => K (le :: es) ρ s) = some r := e
      obtain ⟨fr1, v, h1, n1, lg1, le, s1, ⟨k1, c1⟩, nx1, hle, hlh, hb1, hf1, hq1, e⟩ := lgE_ok hc ho hd.1 hf hb hr e
      obtain ⟨fr2, h2, n2, cs, es, ρ2, s2, ⟨k2, c2⟩, nx2, hes, hhs, hf2, hb2, hq2, e⟩ := logE_ok hc hl' hd.2 hf1 hb1 nx1.rel.bu e
      refine ⟨fr2, h2, n2, ⟨h, n, lg1, ldOf P A f ops o0 fr, h1, n1⟩ :: cs, le :: es, ρ2, s2, ⟨max k1 k2, fun k hk => ?_⟩, ?_, ⟨Nat.le_refl _, hle, hes⟩, ⟨hlh, hhs⟩, hf2, hb2, ?_, e⟩
      · exact ⟨rfl, rfl, rfl, fr1, c1 k (by omega), c2 k (by omega)⟩
      · have := nx1.trans nx2
        simpa [joinLogs, Ct.log] using this
      · intro t ht
        have ht : t ∉ dstL l' ∧ o.dst ≠ some t := by
          obtain ⟨dst, g, k⟩ := o
          cases dst with
          | none => exact ⟨ht, nofun⟩
          | some d =>
            replace ht : t ∉ d :: dstL l' := ht
            simp only [List.mem_cons, not_or] at ht
            exact ⟨ht.2, fun e => ht.1 (Option.some.inj e).symm⟩
        rw [hq2 t ht.1, hq1 t ht.2]
    · cases hl
theorem regE_ok {ops : Array Oper} {dr : Bool} {i : Nat} {cl : CL} {l : List SO} {ρ : EV} {s : HS} {K : EV → HS → RT} {fr : Fr} {h : Heap} {n : Nat} (hc : CLok P A cl) (hl : slOs P A f ops ops.toList = some l) (hd : (l.all fun o => dokO nt o.dst) = true)
    (hf : EnvOK ρ fr.regs) (hb : s.bx = fr.boxes) (hr : Rel s h n) (e : regE cl (if dr then ecPs A f ops else []) l ρ s K = some r) :
    ∃ fr' h' n' lg ρ' s', (∃ k0, ∀ k, k0 ≤ k → ∀ j, exec (callN P A k) P A f nt j (.region i ops dr) fr h n = some ((.norm, fr'), h', n', lg)) ∧ Nx (unb s) h n lg (unb s') h' n' ∧ EnvOK ρ' fr'.regs ∧ s'.bx = fr'.boxes ∧ (∀ t, t ∉ dstL l → fr'.regs t = fr.regs t) ∧ K ρ' s' = some r := by
  have fin : ∀ {fr' h' n' lg} {k : Nat} (j : Nat), (if dr then runDraw (callN P A k) P A f nt ops fr else runOps (callN P A k) P A f nt ops ops.toList fr) h n = some (fr', h', n', lg) → exec (callN P A k) P A f nt j (.region i ops dr) fr h n = some ((.norm, fr'), h', n', lg) := by
    intro fr' h' n' lg k j this
    simp only [exec]
    unfold AM.bind
    rw [this]
    simp [AM.pure]
  generalize hps : (if dr then ecPs A f ops else []) = ps at e
  cases ps with
  | nil =>
    replace e : opsE cl l ρ s K = some r := e
    obtain ⟨fr', h', n', lgs, ρ', s', ⟨k0, hk⟩, nx, hf', hb', hq, e⟩ := opsE_ok hc hl hd hf hb hr e
    refine ⟨fr', h', n', _, ρ', s', ⟨k0, fun k hle j => fin j ?_⟩, nx, hf', hb', hq, e⟩
    cases dr with
    | false => exact runOps_of_log ops _ _ _ _ (hk k hle)
    | true =>
      simp only [if_true] at hps ⊢
      unfold runDraw
      rw [hk k hle]
      simp only
      rw [if_pos (calm_of (hk k hle) (by rw [hps]; simp))]
  | cons p ps =>
    have hdr : dr = true := by cases dr <;> first | rfl | simp at hps
    subst hdr
    simp only [if_true] at hps
    replace e : logE cl l ρ s (fun es ρ s => Bool.rec (motive := fun _ => RT) (excC es (K ρ s) (p :: ps)) (K ρ s) (calmB es (p :: ps))) = some r := e
    obtain ⟨fr', h', n', cs, es, ρ', s', ⟨k0, hk⟩, nx, hes, hhs, hf', hb', hq, e⟩ := logE_ok hc hl hd hf hb hr e
    have hno : ∀ q ∈ ecPs A f ops, ∀ x y, cs[q.1]? = some x → cs[q.2]? = some y → clashB (nthE es q.1) (nthE es q.2) = true → clash x.log y.log = false := by
      intro q hq x y hx hy hb
      have hlt := open_lt (List.mem_filter.1 (show q ∈ (openPairs ops).filter _ from hq)).1
      have gx : (cs.map Ct.log)[q.1]? = some x.log := by rw [List.getElem?_map, hx]; rfl
      have gy : (cs.map Ct.log)[q.2]? = some y.log := by rw [List.getElem?_map, hy]; rfl
      exact clash_no (hes.at gx).2 (hes.at gy).2 (hes.lt hlt gx gy) hb
    have main : K ρ' s' = some r ∧ ∀ q ∈ ecPs A f ops, ∀ x y, cs[q.1]? = some x → cs[q.2]? = some y → clash x.log y.log = false ∨ ((Stab x y ∨ Stab y x) ∧ Live cs x ∧ Live cs y) := by
      rcases br_b e with ⟨_, e⟩ | ⟨hcb, e⟩
      · obtain ⟨e, h2⟩ := exc_el hhs e
        refine ⟨e, fun q hq x y hx hy => ?_⟩
        rcases h2 q (by rw [← hps]; exact hq) x y hx hy with h3 | h3
        · exact .inl (hno q hq x y hx hy h3)
        · exact .inr h3
      · exact ⟨e, fun q hq x y hx hy => .inl (hno q hq x y hx hy (calmB_el hcb q (by rw [← hps]; exact hq)))⟩
    refine ⟨fr', h', n', _, ρ', s', ⟨k0, fun k hle j => fin j ?_⟩, nx, hf', hb', hq, main.1⟩
    simp only [if_true]
    exact draw_of (hk k hle) main.2
end
end Go.Abs
end
section
namespace Go.Abs
inductive JE : EJ → EC → Prop
  | hole (c : EC) : JE .hole c
  | skip : JE .skip .skip
  | reg (ps : List (Nat × Nat)) (l : List SO) : JE (.reg ps l) (.reg ps l)
  | seq {a b : EJ} {c d : EC} : JE a c → JE b d → JE (.seq a b) (.seq c d)
  | cond (x : SX) (j : List Nat) {a b : EJ} {c d : EC} : JE a c → JE b d → JE (.cond x j a b) (.cond x c d)
  | block (id : Nat) (j : List Nat) {b : EJ} {c : EC} : JE b c → JE (.block id j b) (.block id c)
  | loop (j : List Nat) {b : EJ} {c : EC} : JE b c → JE (.loop j b) (.loop c)
  | exit (id : Nat) : JE (.exit id) (.exit id)
  | ret : JE .ret .ret
theorem annJ_ok : ∀ {c : EC} {l : List JJ} {e : EJ} {l' : List JJ}, annJ c l = some (e, l') → JE e c
  | .skip, l, e, l', h => by simp only [annJ, Option.some.injEq, Prod.mk.injEq] at h; rw [← h.1]; exact .skip
  | .reg ps o, l, e, l', h => by simp only [annJ, Option.some.injEq, Prod.mk.injEq] at h; rw [← h.1]; exact .reg ps o
  | .exit i, l, e, l', h => by simp only [annJ, Option.some.injEq, Prod.mk.injEq] at h; rw [← h.1]; exact .exit i
  | .ret, l, e, l', h => by simp only [annJ, Option.some.injEq, Prod.mk.injEq] at h; rw [← h.1]; exact .ret
  | .seq a b, l, e, l', h => by
    simp only [annJ] at h
    split at h
    · rename_i a1 l1 h1
      split at h
      · rename_i b1 l2 h2
        simp only [Option.some.injEq, Prod.mk.injEq] at h
        rw [← h.1]
        exact .seq (annJ_ok h1) (annJ_ok h2)
      · cases h
    · cases h
  | .cond x a b, l, e, l', h => by
    simp only [annJ] at h
    split at h
    · split at h
      · rename_i a1 l1 h1
        split at h
        · rename_i b1 l2 h2
          simp only [Option.some.injEq, Prod.mk.injEq] at h
          rw [← h.1]
          exact .cond x _ (annJ_ok h1) (annJ_ok h2)
        · cases h
      · cases h
    · split at h
      · rename_i b1 l2 h2
        simp only [Option.some.injEq, Prod.mk.injEq] at h
        rw [← h.1]
        exact .cond x _ (.hole a) (annJ_ok h2)
      · cases h
    · split at h
      · rename_i b1 l2 h2
        simp only [Option.some.injEq, Prod.mk.injEq] at h
        rw [← h.1]
        exact .cond x _ (annJ_ok h2) (.hole b)
      · cases h
    · simp only [Option.some.injEq, Prod.mk.injEq] at h
      rw [← h.1]
      exact .hole _
    · cases h
  | .block id b, l, e, l', h => by
    simp only [annJ] at h
    split at h
    · split at h
      · rename_i b1 l2 h2
        simp only [Option.some.injEq, Prod.mk.injEq] at h
        rw [← h.1]
        exact .block id _ (annJ_ok h2)
      · cases h
    · cases h
  | .loop b, l, e, l', h => by
    simp only [annJ] at h
    split at h
    · split at h
      · rename_i b1 l2 h2
        simp only [Option.some.injEq, Prod.mk.injEq] at h
        rw [← h.1]
        exact .loop _ (annJ_ok h2)
      · cases h
    · cases h
theorem less_el {asg : List Nat} : ∀ {ρ : EV} {t : Nat} {v : AV}, lkE t (lessE asg ρ) = some v → t ∉ asg ∧ lkE t ρ = some v
  | [], t, v, h => by cases h
  | (d, u) :: ρ, t, v, h => by
    have hl : lessE asg ((d, u) :: ρ) = Bool.rec (motive := fun _ => EV) ((d, u) :: lessE asg ρ) (lessE asg ρ) (memB asg d) := rfl
    rw [hl] at h
    cases hm : memB asg d with
    | true =>
      rw [hm] at h
      obtain ⟨h1, h2⟩ := less_el (ρ := ρ) h
      refine ⟨h1, ?_⟩
      rw [lkE_cons, if_neg (fun e => h1 (by rw [e]; exact memB_el hm))]
      exact h2
    | false =>
      rw [hm] at h
      replace h : lkE t ((d, u) :: lessE asg ρ) = some v := h
      rw [lkE_cons] at h ⊢
      split at h
      · rename_i ht
        rw [if_pos ht]
        exact ⟨by rw [ht]; exact memB_no hm, h⟩
      · rename_i ht
        rw [if_neg ht]
        exact less_el (ρ := ρ) h
theorem mem_catN {a b : List Nat} {t : Nat} : t ∈ catN a b ↔ t ∈ a ∨ t ∈ b := by
  induction a with
  | nil => simp [catN]
  | cons x l ih =>
    show t ∈ x :: catN l b ↔ _
    simp [ih, or_assoc]
section
variable {P : Program} {A : Ann} {f nt : Nat} {r : AV}
theorem pops_el {rg : Nat → AV} {F : EV → List AV → RT} : ∀ {j : List Nat} {vs : List AV} {ρ : EV}, EnvOK ρ rg → (∀ (i : Nat) t v, j[i]? = some t → vs[i]? = some v → rg t = v) → popsE j vs ρ F = some r → ∃ ρ2, EnvOK ρ2 rg ∧ j.length ≤ vs.length ∧ F ρ2 (vs.drop j.length) = some r
  | [], vs, ρ, h, _, e => ⟨ρ, h, Nat.zero_le _, e⟩
  | t :: j, [], ρ, h, _, e => (nn e).elim
  | t :: j, v :: vs, ρ, h, hv, e => by
    replace e : popsE j vs ((t, v) :: ρ) F = some r := e
    have h2 : EnvOK ((t, v) :: ρ) rg := by
      intro u w hu
      rw [lkE_cons] at hu
      split at hu
      · rename_i hut
        rw [hut, hv 0 t v rfl rfl]
        exact Option.some.inj hu
      · exact h u w hu
    obtain ⟨ρ2, a, b, c⟩ := pops_el h2 (fun i t' v' h1 h2 => hv (i + 1) t' v' (by simpa using h1) (by simpa using h2)) e
    exact ⟨ρ2, a, by simpa using b, c⟩
theorem jvE_at {ρ : EV} : ∀ {j : List Nat} (_ : okJ ρ j = true) (i : Nat) t v, j[i]? = some t → (jvE ρ j)[i]? = some v → lkE t ρ = some v
  | [], _, i, t, v, h, _ => by simp at h
  | u :: j, hk, i, t, v, h1, h2 => by
    replace hk : Bool.rec (motive := fun _ => Bool) false (okJ ρ j) (okR ρ u) = true := hk
    obtain ⟨k1, k2⟩ := and2 hk
    cases i with
    | zero =>
      simp only [List.getElem?_cons_zero, Option.some.injEq] at h1
      subst h1
      replace h2 : some (xrE ρ u) = some v := h2
      rw [(okR_el k1).2, h2]
    | succ i => exact jvE_at k2 i t v (by simpa using h1) h2
theorem go_el {j : List Nat} {ρ : EV} {K : KJ} {s : HS} (e : goE j ρ K s = some r) : okJ ρ j = true ∧ K (jvE ρ j) s = some r := br_t e
theorem join_ok {j asg : List Nat} {ρ ρ' : EV} {K : EV → HS → RT} {s' : HS} {rg rg' : Nat → AV} (hf : EnvOK ρ rg) (hf' : EnvOK ρ' rg') (hq : ∀ t, t ∉ asg → rg' t = rg t) (e : goE j ρ' (joinE j asg ρ K) s' = some r) : ∃ ρ2, EnvOK ρ2 rg' ∧ K ρ2 s' = some r := by
  obtain ⟨hk, e⟩ := go_el e
  replace e : popsE j (jvE ρ' j) (lessE asg ρ) (fun ρ _ => K ρ s') = some r := e
  obtain ⟨ρ2, a, _, c⟩ := pops_el (rg := rg') (fun t v hv => by
    obtain ⟨h1, h2⟩ := less_el hv
    rw [hq t h1]
    exact hf t v h2) (fun i t v h1 h2 => hf' t v (jvE_at hk i t v h1 h2)) e
  exact ⟨ρ2, a, c⟩
def GoesE (cx : CX) (KN KR : EV → HS → RT) (x : AX) (rg : Nat → AV) (s : HS) (r : AV) : Prop := ∃ ρ, EnvOK ρ rg ∧ (match x with
  | .norm => KN ρ s = some r
  | .exit i => exitE i cx ρ s = some r
  | .ret => KR ρ s = some r)
def COutE (P : Program) (A : Ann) (f nt : Nat) (c0 : Code) (asg : List Nat) (fr : Fr) (s : HS) (h : Heap) (n : Nat) (Q : AX → (Nat → AV) → HS → Prop) : Prop :=
  ∃ x fr' h' n' lg s', (∃ k0, ∀ k, k0 ≤ k → exec (callN P A k) P A f nt k c0 fr h n = some ((x, fr'), h', n', lg)) ∧ Nx (unb s) h n lg (unb s') h' n' ∧ s'.bx = fr'.boxes ∧ (∀ t, t ∉ asg → fr'.regs t = fr.regs t) ∧ Q x fr'.regs s'
theorem codeE_ok {cl : CL} (hc : CLok P A cl) (kk : Nat) (KR : EV → HS → RT) : ∀ {c0 : Code} {c : EC} {e : EJ} {r : AV} {cx : CX} {ρ : EV} {s : HS} {K : EV → HS → RT} {fr : Fr} {h : Heap} {n : Nat}, ecC P A f c0 = some c → JE e c → dok nt c = true → EnvOK ρ fr.regs → s.bx = fr.boxes → Rel s h n → codeE cl kk KR e cx ρ s K = some r →
    COutE P A f nt c0 (asgE e) fr s h n fun x rg s => GoesE cx K KR x rg s r
  | .skip, c, e, r, cx, ρ, s, K, fr, h, n, hcc, hj, hd, hf, hb, hr, x => by
    simp only [ecC, Option.some.injEq] at hcc
    subst hcc
    cases hj with
    | hole => exact (nn x).elim
    | skip => exact ⟨.norm, fr, h, n, ([], []), s, ⟨0, fun k _ => rfl⟩, Nx.refl hr.ub, hb, fun _ _ => rfl, ρ, hf, x⟩
  | .exit i, c, e, r, cx, ρ, s, K, fr, h, n, hcc, hj, hd, hf, hb, hr, x => by
    simp only [ecC, Option.some.injEq] at hcc
    subst hcc
    cases hj with
    | hole => exact (nn x).elim
    | exit => exact ⟨.exit i, fr, h, n, ([], []), s, ⟨0, fun k _ => rfl⟩, Nx.refl hr.ub, hb, fun _ _ => rfl, ρ, hf, x⟩
  | .ret, c, e, r, cx, ρ, s, K, fr, h, n, hcc, hj, hd, hf, hb, hr, x => by
    simp only [ecC, Option.some.injEq] at hcc
    subst hcc
    cases hj with
    | hole => exact (nn x).elim
    | ret => exact ⟨.ret, fr, h, n, ([], []), s, ⟨0, fun k _ => rfl⟩, Nx.refl hr.ub, hb, fun _ _ => rfl, ρ, hf, x⟩
  | .region i ops dr, c, e, r, cx, ρ, s, K, fr, h, n, hcc, hj, hd, hf, hb, hr, x => by
    simp only [ecC] at hcc
    obtain ⟨l, hl, rfl⟩ := omap hcc
    cases hj with
    | hole => exact (nn x).elim
    | reg =>
      obtain ⟨fr', h', n', lg, ρ', s', ⟨k0, hk⟩, nx, hf', hb', hq, x⟩ := regE_ok (dr := dr) (i := i) hc hl hd hf hb hr x
      exact ⟨.norm, fr', h', n', lg, s', ⟨k0, fun k hle => hk k hle k⟩, nx, hb', hq, ρ', hf', x⟩
  | .seq a0 b0, c, e, r, cx, ρ, s, K, fr, h, n, hcc, hj, hd, hf, hb, hr, x => by
    simp only [ecC] at hcc
    split at hcc
    · rename_i a b ha hbb
      simp only [Option.some.injEq] at hcc
      subst hcc
      simp only [dok, Bool.and_eq_true] at hd
      cases hj with
      | hole => exact (nn x).elim
      | @seq ea eb _ _ ja jb =>
        replace x : codeE cl kk KR ea cx ρ s (fun ρ s => codeE cl kk KR eb cx ρ s K) = some r := x
        obtain ⟨y, fr1, h1, n1, l1, s1, ⟨k1, c1⟩, nx1, hb1, hq1, ρ1, hf1, q1⟩ := codeE_ok hc kk KR ha ja hd.1 hf hb hr x
        cases y with
        | norm =>
          obtain ⟨y, fr2, h2, n2, l2, s2, ⟨k2, c2⟩, nx2, hb2, hq2, g2⟩ := codeE_ok hc kk KR hbb jb hd.2 hf1 hb1 nx1.rel.bu q1
          refine ⟨y, fr2, h2, n2, _, s2, ⟨max k1 k2, fun k hk => ?_⟩, nx1.trans nx2, hb2, fun t ht => ?_, g2⟩
          · simp only [exec]
            exact am_bind (c1 k (by omega)) (c2 k (by omega))
          · have ht := not_or.1 (fun h => ht ((mem_catN (a := asgE ea) (b := asgE eb)).2 h))
            rw [hq2 t ht.2, hq1 t ht.1]
        | exit i =>
          refine ⟨.exit i, fr1, h1, n1, _, s1, ⟨k1, fun k hk => ?_⟩, nx1.trans (Nx.refl nx1.rel), hb1, fun t ht => hq1 t fun h => ht ((mem_catN (a := asgE ea) (b := asgE eb)).2 (.inl h)), ρ1, hf1, q1⟩
          simp only [exec]
          exact am_bind (l2 := ([], [])) (c1 k hk) rfl
        | ret =>
          refine ⟨.ret, fr1, h1, n1, _, s1, ⟨k1, fun k hk => ?_⟩, nx1.trans (Nx.refl nx1.rel), hb1, fun t ht => hq1 t fun h => ht ((mem_catN (a := asgE ea) (b := asgE eb)).2 (.inl h)), ρ1, hf1, q1⟩
          simp only [exec]
          exact am_bind (l2 := ([], [])) (c1 k hk) rfl
    · cases hcc
  | .cond c0 a0 b0, c, e, r, cx, ρ, s, K, fr, h, n, hcc, hj, hd, hf, hb, hr, z => by
    simp only [ecC] at hcc
    split at hcc
    · rename_i x a b hx ha hbb
      simp only [Option.some.injEq] at hcc
      subst hcc
      simp only [dok, Bool.and_eq_true] at hd
      cases hj with
      | hole => exact (nn z).elim
      | @cond _ j ea eb _ _ ja jb =>
        replace z : Bool.rec (motive := fun _ => RT) none (Bool.rec (motive := fun _ => RT) (cnd (xvE ρ x) (codeE cl kk KR ea cx ρ s K) (codeE cl kk KR eb cx ρ s K)) (cnd (xvE ρ x) (codeE cl kk KR ea cx ρ s fun ρ' s => goE j ρ' (joinE j (catN (asgE ea) (asgE eb)) ρ K) s) (codeE cl kk KR eb cx ρ s fun ρ' s => goE j ρ' (joinE j (catN (asgE ea) (asgE eb)) ρ K) s)) (Bool.rec (motive := fun _ => Bool) false (fallsE eb) (fallsE ea))) (okX ρ x) = some r := z
        obtain ⟨hok, z⟩ := br_t z
        have hev : evalA A fr.regs c0 = some (xvE ρ x) := ev_sound (mkR_regs fr.regs).sat hx (evR3 hf.r hok)
        have main : ∀ {K' : EV → HS → RT}, (∀ {rg' : Nat → AV} {ρ' s'}, (∀ t, t ∉ catN (asgE ea) (asgE eb) → rg' t = fr.regs t) → EnvOK ρ' rg' → K' ρ' s' = some r → ∃ ρ2, EnvOK ρ2 rg' ∧ K ρ2 s' = some r) → cnd (xvE ρ x) (codeE cl kk KR ea cx ρ s K') (codeE cl kk KR eb cx ρ s K') = some r → COutE P A f nt (.cond c0 a0 b0) (catN (asgE ea) (asgE eb)) fr s h n fun x rg s => GoesE cx K KR x rg s r := by
          intro K' hK z
          have fin : ∀ {asg : List Nat} {d0 : Code} {p : Bool}, (∀ t, t ∈ asg → t ∈ catN (asgE ea) (asgE eb)) → COutE P A f nt d0 asg fr s h n (fun x rg s => GoesE cx K' KR x rg s r) → (∀ k, exec (callN P A k) P A f nt k (.cond c0 a0 b0) fr h n = exec (callN P A k) P A f nt k d0 fr h n) → COutE P A f nt (.cond c0 a0 b0) (catN (asgE ea) (asgE eb)) fr s h n fun x rg s => GoesE cx K KR x rg s r := by
            intro asg d0 p hin ⟨y, fr1, h1, n1, l1, s1, ⟨k1, c1⟩, nx1, hb1, hq1, ρ1, hf1, q1⟩ hex
            have hq : ∀ t, t ∉ catN (asgE ea) (asgE eb) → fr1.regs t = fr.regs t := fun t ht => hq1 t fun h => ht (hin t h)
            refine ⟨y, fr1, h1, n1, l1, s1, ⟨k1, fun k hk => by rw [hex]; exact c1 k hk⟩, nx1, hb1, hq, ?_⟩
            cases y with
            | norm =>
              obtain ⟨ρ2, g1, g2⟩ := hK hq hf1 q1
              exact ⟨ρ2, g1, g2⟩
            | exit i => exact ⟨ρ1, hf1, q1⟩
            | ret => exact ⟨ρ1, hf1, q1⟩
          replace z := asBool_el z
          obtain ⟨p, hp, z⟩ := z
          rw [hp] at hev
          rcases br_b z with ⟨rfl, z⟩ | ⟨rfl, z⟩
          · exact fin (p := false) (fun t h => mem_catN.2 (.inr h)) (codeE_ok hc kk KR hbb jb hd.2 hf hb hr z) (fun k => by simp only [exec, hev])
          · exact fin (p := true) (fun t h => mem_catN.2 (.inl h)) (codeE_ok hc kk KR ha ja hd.1 hf hb hr z) (fun k => by simp only [exec, hev])
        rcases br_b z with ⟨_, z⟩ | ⟨_, z⟩
        · exact main (fun _ h2 h3 => ⟨_, h2, h3⟩) z
        · exact main (fun h1 h2 h3 => join_ok hf h2 h1 h3) z
    · cases hcc
  | .block id b0, c, e, r, cx, ρ, s, K, fr, h, n, hcc, hj, hd, hf, hb, hr, x => by
    simp only [ecC] at hcc
    obtain ⟨b, hbb, rfl⟩ := omap hcc
    cases hj with
    | hole => exact (nn x).elim
    | @block _ j eb _ jb =>
      replace x : codeE cl kk KR eb ((id, j, joinE j (asgE eb) ρ K) :: cx) ρ s (fun ρ' s => goE j ρ' (joinE j (asgE eb) ρ K) s) = some r := x
      obtain ⟨y, fr1, h1, n1, l1, s1, ⟨k1, c1⟩, nx1, hb1, hq1, ρ1, hf1, q1⟩ := codeE_ok hc kk KR hbb jb hd hf hb hr x
      have fin : ∀ {z}, z = (if y = .exit id then .norm else y) → GoesE cx K KR z fr1.regs s1 r → COutE P A f nt (.block id b0) (asgE eb) fr s h n fun x rg s => GoesE cx K KR x rg s r := by
        intro z hz q
        refine ⟨z, fr1, h1, n1, _, s1, ⟨k1, fun k hk => ?_⟩, nx1.trans (Nx.refl nx1.rel), hb1, hq1, q⟩
        simp only [exec]
        refine am_bind (l2 := ([], [])) (c1 k hk) ?_
        rw [hz]
        rfl
      cases y with
      | norm =>
        obtain ⟨ρ2, g1, g2⟩ := join_ok hf hf1 hq1 q1
        exact fin (z := .norm) (by simp) ⟨ρ2, g1, g2⟩
      | exit i =>
        replace q1 : Bool.rec (motive := fun _ => RT) (exitE i cx ρ1 s1) (goE j ρ1 (joinE j (asgE eb) ρ K) s1) (Nat.beq i id) = some r := q1
        rcases br_b q1 with ⟨hi, q⟩ | ⟨hi, q⟩
        · have := beq_ne hi
          exact fin (z := .exit i) (by rw [if_neg (by simpa using this)]) ⟨ρ1, hf1, q⟩
        · have := beq_eq hi
          subst this
          obtain ⟨ρ2, g1, g2⟩ := join_ok hf hf1 hq1 q
          exact fin (z := .norm) (by simp) ⟨ρ2, g1, g2⟩
      | ret => exact fin (z := .ret) (by simp) ⟨ρ1, hf1, q1⟩
  | .loop b0, c, e, r, cx, ρ, s, K, fr, h, n, hcc, hj, hd, hf, hb, hr, x => by
    simp only [ecC] at hcc
    obtain ⟨b, hbb, rfl⟩ := omap hcc
    cases hj with
    | hole => exact (nn x).elim
    | @loop j eb _ jb =>
      let B : KJ → KJ := fun rc vs s => popsE j vs (lessE (asgE eb) ρ) fun ρ _ => codeE cl kk KR eb cx ρ s fun ρ s => goE j ρ rc s
      replace x : goE j ρ (loopE kk B) s = some r := x
      have loop : ∀ (m : Nat) {ρ1 : EV} {s : HS} {fr1 : Fr} {h : Heap} {n : Nat}, EnvOK ρ1 fr1.regs → (∀ t, t ∉ asgE eb → fr1.regs t = fr.regs t) → s.bx = fr1.boxes → Rel s h n → goE j ρ1 (loopE m B) s = some r →
          ∃ x fr' h' n' lg s', (∃ k0, ∀ k, k0 ≤ k → ∀ i, m ≤ i → loopN (fun fr => exec (callN P A k) P A f nt k b0 fr) i fr1 h n = some ((x, fr'), h', n', lg)) ∧ Nx (unb s) h n lg (unb s') h' n' ∧ s'.bx = fr'.boxes ∧ (∀ t, t ∉ asgE eb → fr'.regs t = fr.regs t) ∧ GoesE cx K KR x fr'.regs s' r := by
        intro m
        induction m with
        | zero => intro ρ1 s fr1 h n _ _ _ _ e; obtain ⟨_, e⟩ := go_el e; exact (nn e).elim
        | succ m ih =>
          intro ρ1 s fr1 h n hf1 hq hb1 hr e
          have e : goE j ρ1 (joinE j (asgE eb) ρ fun ρ s => codeE cl kk KR eb cx ρ s fun ρ s => goE j ρ (loopE m B) s) s = some r := e
          obtain ⟨ρ2, g1, g2⟩ := join_ok hf hf1 hq e
          obtain ⟨y, fr2, h2, n2, l2, s2, ⟨k1, c1⟩, nx1, hb2, hq2, ρ3, hf2, q1⟩ := codeE_ok hc kk KR hbb jb hd g1 hb1 hr g2
          have hq3 : ∀ t, t ∉ asgE eb → fr2.regs t = fr.regs t := fun t ht => (hq2 t ht).trans (hq t ht)
          cases y with
          | norm =>
            obtain ⟨y, fr3, h3, n3, l3, s3, ⟨k2, c2⟩, nx2, hb3, hq4, q2⟩ := ih hf2 hq3 hb2 nx1.rel.bu q1
            refine ⟨y, fr3, h3, n3, _, s3, ⟨max k1 k2, fun k hk i hi => ?_⟩, nx1.trans nx2, hb3, hq4, q2⟩
            obtain ⟨i, rfl⟩ : ∃ i', i = i' + 1 := ⟨i - 1, by omega⟩
            unfold loopN
            exact am_bind (c1 k (by omega)) (c2 k (by omega) i (by omega))
          | exit i =>
            refine ⟨.exit i, fr2, h2, n2, _, s2, ⟨k1, fun k hk i' hi => ?_⟩, nx1.trans (Nx.refl nx1.rel), hb2, hq3, ρ3, hf2, q1⟩
            obtain ⟨i', rfl⟩ : ∃ i'', i' = i'' + 1 := ⟨i' - 1, by omega⟩
            unfold loopN
            exact am_bind (l2 := ([], [])) (c1 k (by omega)) rfl
          | ret =>
            refine ⟨.ret, fr2, h2, n2, _, s2, ⟨k1, fun k hk i' hi => ?_⟩, nx1.trans (Nx.refl nx1.rel), hb2, hq3, ρ3, hf2, q1⟩
            obtain ⟨i', rfl⟩ : ∃ i'', i' = i'' + 1 := ⟨i' - 1, by omega⟩
            unfold loopN
            exact am_bind (l2 := ([], [])) (c1 k (by omega)) rfl
      obtain ⟨y, fr1, h1, n1, l1, s1, ⟨k1, c1⟩, nx1, hb1, hq1, q1⟩ := loop kk hf (fun _ _ => rfl) hb hr x
      refine ⟨y, fr1, h1, n1, l1, s1, ⟨max k1 kk, fun k hk => ?_⟩, nx1, hb1, hq1, q1⟩
      simp only [exec]
      exact c1 k (by omega) k (by omega)
  | .rangeFunc _ _ _ _, _, _, _, _, _, _, _, _, _, _, hcc, _, _, _, _, _, _ => by simp [ecC] at hcc
  | .scope _, _, _, _, _, _, _, _, _, _, _, hcc, _, _, _, _, _, _ => by simp [ecC] at hcc
  | .label _, _, _, _, _, _, _, _, _, _, _, hcc, _, _, _, _, _, _ => by simp [ecC] at hcc
  | .goto _, _, _, _, _, _, _, _, _, _, _, hcc, _, _, _, _, _, _ => by simp [ecC] at hcc
theorem resX_ok {x : RSv} {v0 : ResultVar} {R : RG} {s : HS} {K : AV → HS → RT} {rg : Nat → AV} {h : Heap} {n : Nat} (hs : Regs R rg) (hr : Rel s h n) (e : resX x R s K = some r)
    (hx : (∃ t, x = .t t ∧ v0 = .tmp t) ∨ ∃ a t m, x = .c a m ∧ v0 = .cell a t ∧ cellsN P t = some m) :
    ∃ v lg s1, (∀ (l : List ResultVar) (vs : List AV) (h' : Heap) (n' : Nat) (l2 : Log), resultsA P rg l h n = some (vs, h', n', l2) → h' = h → n' = n → resultsA P rg (v0 :: l) h n = some (v :: vs, h, n, (lg.1 ++ l2.1, lg.2 ++ l2.2))) ∧ Nx s h n lg s1 h n ∧ K v s1 = some r := by
  rcases hx with ⟨t, rfl, rfl⟩ | ⟨a, t, m, rfl, rfl, hm⟩
  · replace e : xT t R (fun v => K v s) = some r := e
    obtain ⟨e1, e⟩ := xT_el e
    refine ⟨_, ([], []), s, ?_, Nx.refl hr, e⟩
    rintro l vs h' n' l2 hl rfl rfl
    simp only [resultsA]
    unfold AM.bind
    rw [hl]
    simp [AM.pure, hs.sat _ _ e1]
  · replace e : xT a R (fun p => ldA p (takeC m) s K) = some r := e
    obtain ⟨e1, e⟩ := xT_el e
    obtain ⟨v, lg, s1, h1, nx, e⟩ := ldA_el hm hr e
    refine ⟨v, lg, s1, ?_, nx, e⟩
    rintro l vs h' n' l2 hl rfl rfl
    simp only [resultsA]
    rw [← hs.sat _ _ e1] at h1
    have := am_bind (g := fun v => AM.bind (resultsA P rg l) fun vs => AM.pure (v :: vs)) h1 (am_bind (g := fun vs => AM.pure (v :: vs)) (l2 := ([], [])) hl rfl)
    simpa using this
theorem rsOf_cons {v0 : ResultVar} {l : List ResultVar} {rs : List RSv} (h : rsOf P (v0 :: l) = some rs) : ∃ x rs', rs = x :: rs' ∧ rsOf P l = some rs' ∧ ((∃ t, x = .t t ∧ v0 = .tmp t) ∨ ∃ a t m, x = .c a m ∧ v0 = .cell a t ∧ cellsN P t = some m) := by
  cases v0 with
  | tmp t =>
    simp only [rsOf] at h
    obtain ⟨r', h1, rfl⟩ := omap h
    exact ⟨.t t, r', rfl, h1, .inl ⟨t, rfl, rfl⟩⟩
  | cell a t =>
    simp only [rsOf] at h
    split at h
    · rename_i m r' h1 h2
      simp only [Option.some.injEq] at h
      exact ⟨.c a m, r', h.symm, h2, .inr ⟨a, t, m, rfl, rfl, h1⟩⟩
    · cases h
theorem resQ_ok {R : RG} {rg : Nat → AV} (hs : Regs R rg) : ∀ {l : List ResultVar} {rs : List RSv} {s : HS} {K : List AV → HS → RT} {h : Heap} {n : Nat}, rsOf P l = some rs → Rel s h n → resQ rs R s K = some r →
    ∃ vs lg s1, (∃ l2, resultsA P rg l h n = some (vs, h, n, l2) ∧ lg = l2) ∧ Nx s h n lg s1 h n ∧ vs.length = l.length ∧ K vs s1 = some r
  | [], rs, s, K, h, n, hl, hr, e => by
    simp only [rsOf, Option.some.injEq] at hl
    subst hl
    exact ⟨[], _, s, ⟨_, rfl, rfl⟩, Nx.refl hr, rfl, e⟩
  | v0 :: l, rs, s, K, h, n, hl, hr, e => by
    obtain ⟨x, rs', rfl, h1, hx⟩ := rsOf_cons hl
    replace e : resX x R s (fun v s => resQ rs' R s fun vs s => K (v :: vs) s) = some r := e
    obtain ⟨v, lg, s1, h2, nx, e⟩ := resX_ok hs hr e hx
    obtain ⟨vs, l2, s2, ⟨l3, h3, rfl⟩, nx2, hlen, e⟩ := resQ_ok hs h1 nx.rel e
    exact ⟨v :: vs, _, s2, ⟨_, h2 l vs h n l2 h3 rfl rfl, rfl⟩, nx.trans nx2, by simp [hlen], e⟩
theorem resC_ok {R : RG} {rg : Nat → AV} (hs : Regs R rg) {l : List ResultVar} {rs : List RSv} {s : HS} {K : AV → HS → RT} {h : Heap} {n : Nat} (hl : rsOf P l = some rs) (hr : Rel s h n) (e : resC rs R s K = some r) :
    ∃ vs lg s1, resultsA P rg l h n = some (vs, h, n, lg) ∧ Nx s h n lg s1 h n ∧ K (tupled vs) s1 = some r := by
  cases l with
  | nil =>
    simp only [rsOf, Option.some.injEq] at hl
    subst hl
    exact ⟨[], ([], []), s, rfl, Nx.refl hr, e⟩
  | cons v0 l =>
    obtain ⟨x, rs', rfl, h1, hx⟩ := rsOf_cons hl
    cases l with
    | nil =>
      simp only [rsOf, Option.some.injEq] at h1
      subst h1
      replace e : resX x R s K = some r := e
      obtain ⟨v, lg, s1, h2, nx, e⟩ := resX_ok hs hr e hx
      have := h2 [] [] h n ([], []) rfl rfl rfl
      exact ⟨[v], lg, s1, by simpa using this, nx, e⟩
    | cons v1 l =>
      obtain ⟨y, rs2, rfl, h2, hy⟩ := rsOf_cons h1
      replace e : resQ (x :: y :: rs2) R s (fun vs s => K (.tup vs) s) = some r := e
      obtain ⟨vs, lg, s1, ⟨l2, h3, rfl⟩, nx, hlen, e⟩ := resQ_ok hs hl hr e
      refine ⟨vs, lg, s1, h3, nx, ?_⟩
      match vs, hlen with
      | a :: b :: vs, _ => exact e
def FrzOk (g : AV → HC AV) (m : AV → AM AV) : Prop := ∀ (r v : AV) (s : HS) (h : Heap) (n : Nat) (K : AV → HS → RT), Rel s h n → g v s K = some r → ∃ w h' lg s1, m v h n = some (w, h', n, lg) ∧ Nx s h n lg s1 h' n ∧ K w s1 = some r
theorem frzW_ok {g : AV → HC AV} {m : AV → AM AV} (hg : FrzOk g m) :
    ∀ {l : List AV} {s : HS} {h : Heap} {n : Nat} {K : List AV → HS → RT}, Rel s h n → frzW g l s K = some r → ∃ ws h' lg s1, freezeW m l h n = some (ws, h', n, lg) ∧ Nx s h n lg s1 h' n ∧ K ws s1 = some r
  | [], s, h, n, K, hr, e => ⟨[], h, ([], []), s, rfl, Nx.refl hr, e⟩
  | v :: l, s, h, n, K, hr, e => by
    replace e : g v s (fun v s => frzW g l s fun r s => K (v :: r) s) = some r := e
    obtain ⟨w, h1, l1, s1, e1, nx1, e⟩ := hg _ _ _ _ _ _ hr e
    obtain ⟨ws, h2, l2, s2, e2, nx2, e⟩ := frzW_ok hg nx1.rel e
    refine ⟨w :: ws, h2, _, s2, ?_, nx1.trans nx2, e⟩
    simp only [freezeW]
    have := am_bind (g := fun v => AM.bind (freezeW m l) fun r => AM.pure (v :: r)) e1 (am_bind (g := fun r => AM.pure (w :: r)) (l2 := ([], [])) e2 rfl)
    simpa using this
theorem frzN_ok : ∀ (k : Nat), FrzOk (frzN k) (freezeV k)
  | 0 => fun _ _ _ _ _ _ _ e => (nn e).elim
  | k + 1 => fun r v s h n K hr e => by
    cases v with
    | sl id off len sz =>
      replace e : mcells id s (fun cs s => sliC cs off (Nat.mul len sz) fun cs => mkill id s fun _ s => frzW (frzN k) cs s fun cs s => K (.tsl cs len) s) = some r := e
      obtain ⟨cs, s1, h1, nx1, e⟩ := mcells_el hr e
      obtain ⟨l, h3, e⟩ := sliC_el e
      obtain ⟨s2, h2, nx2, e⟩ := mkill_el nx1.rel e
      obtain ⟨ws, h4, l4, s3, e4, nx3, e⟩ := frzW_ok (frzN_ok k) nx2.rel e
      have h3 : sliceL cs off (len * sz) = some l := h3
      refine ⟨_, _, _, s3, ?_, (nx1.trans nx2).trans nx3, e⟩
      simp [freezeV, AM.bind, AM.get, h1, AM.lift, h3, AM.kill, AM.pure, e4]
    | agg l =>
      replace e : frzW (frzN k) l s (fun cs s => K (.agg cs) s) = some r := e
      obtain ⟨ws, h4, l4, s3, e4, nx3, e⟩ := frzW_ok (frzN_ok k) hr e
      refine ⟨_, _, _, s3, ?_, nx3, e⟩
      simp [freezeV, AM.bind, AM.pure, e4]
    | tup l =>
      replace e : frzW (frzN k) l s (fun cs s => K (.tup cs) s) = some r := e
      obtain ⟨ws, h4, l4, s3, e4, nx3, e⟩ := frzW_ok (frzN_ok k) hr e
      refine ⟨_, _, _, s3, ?_, nx3, e⟩
      simp [freezeV, AM.bind, AM.pure, e4]
    | _ => exact ⟨_, h, ([], []), s, rfl, Nx.refl hr, e⟩
theorem rXE_eq {ρ : EV} {R : RG} (hR : EnvR ρ R) {x : RSv} (h : RSv.rec (motive := fun _ => Bool) (fun t => okR ρ t) (fun t _ => okR ρ t) x = true) (s : HS) (K : AV → HS → RT) : resX x R s K = rXE ρ x s K := by
  cases x with
  | t i => exact xT_ev hR h _
  | c i m => exact xT_ev hR h _
theorem rQE_eq {ρ : EV} {R : RG} (hR : EnvR ρ R) : ∀ {l : List RSv} (_ : okRs ρ l = true) (s : HS) (K : List AV → HS → RT), resQ l R s K = rQE ρ l s K
  | [], _, _, _ => rfl
  | x :: l, h, s, K => by
    obtain ⟨h1, h2⟩ := and2 (show Bool.rec (motive := fun _ => Bool) false (okRs ρ l) (RSv.rec (motive := fun _ => Bool) (fun t => okR ρ t) (fun t _ => okR ρ t) x) = true from h)
    show resX x R s (fun v s => resQ l R s fun vs s => K (v :: vs) s) = _
    rw [rXE_eq hR h1]
    have ih : (fun (v : AV) (s : HS) => resQ l R s fun vs s => K (v :: vs) s) = fun v s => rQE ρ l s fun vs s => K (v :: vs) s := by
      funext v s
      exact rQE_eq hR h2 s _
    rw [ih]
    cases x <;> rfl
theorem rsE_eq {ρ : EV} {R : RG} (hR : EnvR ρ R) {l : List RSv} (h : okRs ρ l = true) (s : HS) (K : AV → HS → RT) : resC l R s K = rsE ρ l s K := by
  match l, h with
  | [], _ => rfl
  | [x], h =>
    have h1 := (and2 (show Bool.rec (motive := fun _ => Bool) false (okRs ρ []) (RSv.rec (motive := fun _ => Bool) (fun t => okR ρ t) (fun t _ => okR ρ t) x) = true from h)).1
    show resX x R s K = _
    rw [rXE_eq hR h1]
    cases x <;> rfl
  | x :: y :: l, h =>
    show resQ (x :: y :: l) R s (fun vs s => K (.tup vs) s) = rQE ρ (x :: y :: l) s fun vs s => K (.tup vs) s
    exact rQE_eq hR h s _
def CodeOK (P : Program) (A : Ann) (f : Nat) (code : F2C) : Prop := ∀ cl, CLok P A cl → ∀ (kk : Nat) (vs : List AV) (s : HS) (K : AV → HS → RT) (h : Heap) (n : Nat) (r : AV), s.bx = [] → Rel s h n → code cl kk vs s K = some r →
    ∃ v bx h' n' lg s1, (∃ k0, ∀ k, k0 ≤ k → body (callN P A k) P A k f vs h n = some ((v, bx), h', n', lg)) ∧ Nx (unb s) h n lg (unb s1) h' n' ∧ s1.bx = bx ∧ K v s1 = some r
theorem mkQ_ok {vs : List AV} (hl : vs.length ≤ 512) : ∀ q, EnvOK (mkQ q) (initRegs vs)
  | [] => fun t v h => by cases h
  | n :: q => fun t v h => by
    replace h : lkE t ((600 + n, .undef) :: mkQ q) = some v := h
    rw [lkE_cons] at h
    split at h
    · rename_i ht
      subst ht
      cases h
      show vs.getD (600 + n) .undef = .undef
      rw [List.getD_eq_getElem?_getD, List.getElem?_eq_none (by omega)]
      rfl
    · exact mkQ_ok hl q t v h
theorem endE_len {j : List Nat} : ∀ {vs : List AV} {ρ : EV} {F : EV → RT} {r : AV}, popsE j vs ρ (fun ρ vs => endE vs (F ρ)) = some r → vs.length = j.length := by
  induction j with
  | nil =>
    intro vs ρ F r e
    cases vs with
    | nil => rfl
    | cons a l => exact (nn (show (none : RT) = some r from e)).elim
  | cons t j ih =>
    intro vs ρ F r e
    cases vs with
    | nil => exact (nn (show (none : RT) = some r from e)).elim
    | cons a l =>
      have := ih (vs := l) (ρ := (t, a) :: ρ) (F := F) e
      simp [this]
theorem fnQ_ok {q : List Nat} {fn : Func} {c0 : Code} {c : EC} {e : EJ} {rs : List RSv} {np : Nat} {fz : Bool} (e1 : P.funcs[f]? = some fn) (e2 : fn.body = some c0) (e3 : ecC P A f c0 = some c) (e4 : rsOf P fn.results.toList = some rs) (e5 : (fn.name == "runtime.NumGoroutine") = false) (e6 : dok fn.ntmps c = true)
    (hj : JE e c) (hnp : np ≤ fn.ntmps) (h512 : fn.ntmps ≤ 512) (hfz : fz = A.fz f) : CodeOK P A f (fnQ q (List.range np) e rs fz) := by
  intro cl hc kk vs s K h n r hbx hr x
  replace x : popsE (List.range np) vs (mkQ q) (fun ρ vs => endE vs (codeE cl kk (rtE rs fz K) e [] ρ s (rtE rs fz K))) = some r := x
  have hlen0 : vs.length ≤ 512 := by
    have := endE_len x
    rw [List.length_range] at this
    omega
  obtain ⟨ρ, hρ, hlen, x⟩ := pops_el (rg := initRegs vs) (mkQ_ok hlen0 q) (fun i t v h1 h2 => by
    have hi : i < np := by
      have := (List.getElem?_eq_some_iff.1 h1).1
      simpa using this
    rw [List.getElem?_range hi] at h1
    cases h1
    show vs.getD i .undef = v
    rw [List.getD_eq_getElem?_getD, h2]
    rfl) x
  rw [List.length_range] at hlen x
  have hdrop : vs.drop np = [] ∧ codeE cl kk (rtE rs fz K) e [] ρ s (rtE rs fz K) = some r := by
    cases hv : vs.drop np with
    | nil => rw [hv] at x; exact ⟨rfl, x⟩
    | cons a l => rw [hv] at x; exact (nn x).elim
  obtain ⟨hd, x⟩ := hdrop
  have hl : vs.length ≤ fn.ntmps := by
    have := congrArg List.length hd
    simp at this
    omega
  obtain ⟨y, fr1, h1, n1, l1, s1, ⟨k1, c1⟩, nx1, hb1, _, ρ1, hf1, q1⟩ := codeE_ok (fr := ⟨initRegs vs, []⟩) hc kk (rtE rs fz K) e3 hj e6 hρ hbx hr x
  have q : rtE rs fz K ρ1 s1 = some r ∧ ∀ i, y ≠ .exit i := by
    cases y with
    | norm => exact ⟨q1, by simp⟩
    | exit i => exact (nn q1).elim
    | ret => exact ⟨q1, by simp⟩
  obtain ⟨q, hy⟩ := q
  obtain ⟨hok, q⟩ := br_t q
  have q : resC rs (mkR fr1.regs) s1 (fun v s => Bool.rec (motive := fun _ => RT) (K v s) (frzN 1000 v s K) fz) = some r := by
    rw [rsE_eq hf1.r hok]
    cases fz <;> exact q
  obtain ⟨ws, l2, s2, e10, nx2, q⟩ := resC_ok (mkR_regs fr1.regs) e4 nx1.rel.bu q
  have hz : ∃ v h2 l3 s3, (if A.fz f then freezeV 1000 (tupled ws) else AM.pure (tupled ws)) h1 n1 = some (v, h2, n1, l3) ∧ Nx s2 h1 n1 l3 s3 h2 n1 ∧ K v s3 = some r := by
    rw [hfz] at q
    cases hfz : A.fz f with
    | false =>
      rw [hfz] at q
      exact ⟨_, h1, ([], []), s2, rfl, Nx.refl nx2.rel, q⟩
    | true =>
      rw [hfz] at q
      exact frzN_ok 1000 _ _ _ _ _ _ nx2.rel q
  obtain ⟨v, h2, l3, s3, e11, nx3, q⟩ := hz
  refine ⟨v, fr1.boxes, h2, n1, _, s3, ⟨k1, fun k hk => ?_⟩, (nx1.trans nx2.ub).trans nx3.ub, ?_, q⟩
  · unfold body
    rw [e1]
    simp only [e2]
    rw [if_neg (by simp [e5]; omega)]
    have inner : (AM.bind (resultsA P fr1.regs fn.results.toList) fun vs => AM.bind (if A.fz f then freezeV 1000 (tupled vs) else AM.pure (tupled vs)) fun v => AM.pure (v, fr1.boxes)) h1 n1 = some ((v, fr1.boxes), h2, n1, (l2.1 ++ l3.1, l2.2 ++ l3.2)) := by
      have := am_bind (g := fun vs => AM.bind (if A.fz f then freezeV 1000 (tupled vs) else AM.pure (tupled vs)) fun v => AM.pure (v, fr1.boxes)) e10 (am_bind (g := fun v => AM.pure (v, fr1.boxes)) (l2 := ([], [])) e11 rfl)
      simpa using this
    rw [List.append_assoc, List.append_assoc]
    refine am_bind (l2 := (l2.1 ++ l3.1, l2.2 ++ l3.2)) (c1 k hk) ?_
    cases y with
    | exit i => exact absurd rfl (hy i)
    | norm => exact inner
    | ret => exact inner
  · rw [nx3.bx, nx2.bx]
    exact hb1
theorem topB_el {n : Nat} : ∀ {H : HL}, topB n H = true → ∀ {m}, H.ok m → H.ok n
  | .nil, _, _, _ => trivial
  | .cons _j _o _t, h, _m, ho => ⟨ble_le h, ho.2⟩
theorem withE_ok {code : F2C} {still : Bool} (he : CodeOK P A f code) (hst : still = A.still f) {cl : CL} (hc : CLok P A cl) {kk : Nat} {vs : List AV} {s : HS} {K : AV → HS → RT} {h : Heap} {n : Nat} (hr : Rel s h n) (x : withE code still cl kk vs s K = some r) :
    ∃ v h' n' lg s1, (∃ k0, ∀ k, k0 ≤ k → callO (callN P A k) P A k f vs h n = some (v, h', n', lg)) ∧ Nx s h n lg s1 h' n' ∧ K v s1 = some r := by
  obtain ⟨H, m, bx, thr, rd, wr, mw⟩ := s
  have hm : m = n := hr.num
  subst hm
  replace x : code cl kk vs ⟨H, m, [], thr, rd, wr, m⟩ (fun v s1 => HS.rec (motive := fun _ => RT) (fun h1 n1 bx1 _ rd wr mw1 => ridsC m bx1 h1 fun h2 =>
    Bool.rec (motive := fun _ => RT) (Bool.rec (motive := fun _ => RT) (K v ⟨h2, n1, bx, thr, rd, wr, mw⟩) (Bool.rec (motive := fun _ => RT) (Bool.rec (motive := fun _ => RT) (K v ⟨h2, n1, bx, thr, rd, wr, mw⟩) (K v ⟨H, n1, bx, thr, rd, wr, mw⟩) (treeB v)) (K v ⟨h2, n1, bx, thr, rd, wr, mw⟩) (topB m h2)) still)
      (minC mw mw1 fun mw => K v ⟨h2, n1, bx, thr, rd, wr, mw⟩) (Nat.ble (Nat.succ mw1) m)) s1) = some r := x
  obtain ⟨v, bx1, h1, n1, lg, s1, ⟨k0, hk⟩, nx, hb, x⟩ := he cl hc kk vs ⟨H, m, [], thr, rd, wr, m⟩ _ h m r rfl ⟨hr.look, hr.ok, rfl, Nat.le_refl _, hr.thr⟩ x
  obtain ⟨H1, m1, bx1', thr1, rd1, wr1, mw1⟩ := s1
  have hb : bx1' = bx1 := hb
  subst hb
  have hm1 : m1 = n1 := nx.rel.num
  subst hm1
  replace x : ridsC m bx1' H1 (fun h2 => Bool.rec (motive := fun _ => RT) (Bool.rec (motive := fun _ => RT) (K v ⟨h2, m1, bx, thr, rd1, wr1, mw⟩) (Bool.rec (motive := fun _ => RT) (Bool.rec (motive := fun _ => RT) (K v ⟨h2, m1, bx, thr, rd1, wr1, mw⟩) (K v ⟨H, m1, bx, thr, rd1, wr1, mw⟩) (treeB v)) (K v ⟨h2, m1, bx, thr, rd1, wr1, mw⟩) (topB m h2)) still)
      (minC mw mw1 fun mw => K v ⟨h2, m1, bx, thr, rd1, wr1, mw⟩) (Nat.ble (Nat.succ mw1) m)) = some r := x
  obtain ⟨H2, o1, o2, o3, x⟩ := HL.ids_el nx.rel.ok x
  have hle : m ≤ m1 := nx.le
  have hmw : mw ≤ m := hr.mw
  have hfree : ∀ i, H2.look i = freeBoxes m m1 h1 bx1' i := by
    intro i
    rw [o2 i]
    unfold freeBoxes
    have hl : H1.look i = h1 i := nx.rel.look i
    by_cases hi : i ∈ bx1'
    · rw [if_pos hi]
      by_cases hi2 : i < m1
      · rw [if_pos ⟨o3 i hi, hi2, by simpa using hi⟩]
      · rw [if_neg (fun hc => hi2 hc.2.1)]
        rw [← hl]
        exact (HL.look_ge nx.rel.ok (by omega)).symm
    · rw [if_neg hi, if_neg (fun hc => hi (by simpa using hc.2.2))]
      exact hl
  have hsame : ∀ i, i < m → i ∉ lg.2 → freeBoxes m m1 h1 bx1' i = h i := by
    intro i hi hw
    unfold freeBoxes
    rw [if_neg (fun hc => absurd hc.1 (by omega))]
    exact nx.frame i hi hw
  let lf : Log := (lg.1.filter (· < m), lg.2.filter (· < m))
  have hrd : ∀ id, id ∈ rd ∨ (id < thr ∧ id ∈ lf.1) → id ∈ rd1 := by
    rintro id (hi | ⟨hl, hi⟩)
    · exact nx.rd id (.inl hi)
    · exact nx.rd id (.inr ⟨hl, (List.mem_filter.1 hi).1⟩)
  have hwr : ∀ id, id ∈ wr ∨ (id < thr ∧ id ∈ lf.2) → id ∈ wr1 := by
    rintro id (hi | ⟨hl, hi⟩)
    · exact nx.wr id (.inl hi)
    · exact nx.wr id (.inr ⟨hl, (List.mem_filter.1 hi).1⟩)
  have hown : ∀ id, id ∈ lf.1 ∨ id ∈ lf.2 → id < m1 := by
    rintro id (hi | hi)
    · exact nx.own id (.inl (List.mem_filter.1 hi).1)
    · exact nx.own id (.inr (List.mem_filter.1 hi).1)
  have hlow : ∀ id ∈ lf.2, id < m := fun id hi => by simpa using (List.mem_filter.1 hi).2
  have hnlow : ∀ id, id < m → id ∉ lf.2 → id ∉ lg.2 := fun id hi hn hc => hn (List.mem_filter.2 ⟨hc, by simpa using hi⟩)
  have plain : ∀ {mw' : Nat}, (∀ id ∈ lf.2, mw' ≤ id) → (mw' = mw ∨ mw' ∈ lf.2) → mw' ≤ mw → Nx ⟨H, m, bx, thr, rd, wr, mw⟩ h m lf ⟨H2, m1, bx, thr, rd1, wr1, mw'⟩ (freeBoxes m m1 h1 bx1') m1 := by
    intro mw' a1 a2 a3
    refine ⟨⟨hfree, o1, rfl, ?_, Nat.le_trans hr.thr hle⟩, hle, rfl, rfl, hrd, hwr, hown, a1, a2, a3, fun i hi hn => hsame i hi (hnlow i hi hn)⟩
    show mw' ≤ m1
    omega
  have fin : ∀ {w : AV × Heap × Nat × Log}, finish (A.still f) m h v bx1' h1 m1 lg = w → ∃ k0, ∀ k, k0 ≤ k → callO (callN P A k) P A k f vs h m = some w := by
    intro w hw
    refine ⟨k0, fun k hle => ?_⟩
    unfold callO
    rw [hk k hle]
    simp only [hw]
  have plainF : ¬((A.still f && v.tree && lf.2.isEmpty) = true) → finish (A.still f) m h v bx1' h1 m1 lg = (v, freeBoxes m m1 h1 bx1', m1, lf) := by
    intro hn
    unfold finish
    simp only
    rw [if_neg hn]
  have stillF : (A.still f && v.tree && lf.2.isEmpty) = true → finish (A.still f) m h v bx1' h1 m1 lg = (v, h, m1, (lf.1, [])) := by
    intro hn
    unfold finish
    simp only
    rw [if_pos hn]
  replace x := br_b x
  rcases x with ⟨hw, x⟩ | ⟨hw, x⟩
  · -- nothing older was written
    have hw : ¬ mw1 < m := ble_nle hw
    have hnone : lf.2 = [] := by
      apply List.eq_nil_iff_forall_not_mem.2
      intro id hi
      have h1' : mw1 ≤ id := nx.mw id (List.mem_filter.1 hi).1
      have := hlow id hi
      omega
    have nxp := plain (mw' := mw) (by rw [hnone]; simp) (.inl rfl) (Nat.le_refl _)
    have both : H2.ok m → freeBoxes m m1 h1 bx1' = h := by
      intro ho
      funext i
      by_cases hi : i < m
      · exact hsame i hi (hnlow i hi (by rw [hnone]; simp))
      · rw [← hfree i, HL.look_ge ho (by omega)]
        exact (hr.fresh i (by omega)).symm
    replace x := br_b x
    rcases x with ⟨hs, x⟩ | ⟨hs, x⟩
    · refine ⟨v, _, _, _, _, fin (plainF (by rw [← hst, hs]; simp)), nxp, x⟩
    · replace x := br_b x
      rcases x with ⟨ht, x⟩ | ⟨ht, x⟩
      · replace x := br_b x
        rcases x with ⟨hv, x⟩ | ⟨hv, x⟩
        · rw [treeB_eq] at hv
          refine ⟨v, _, _, _, _, fin (plainF (by rw [hv]; simp)), nxp, x⟩
        · rw [treeB_eq] at hv
          refine ⟨v, _, _, _, _, fin (stillF (by rw [← hst, hs, hv, hnone]; rfl)), ?_, x⟩
          exact ⟨⟨hr.look, HL.ok_le hr.ok hle, rfl, Nat.le_trans hmw hle, Nat.le_trans hr.thr hle⟩, hle, rfl, rfl, hrd, by rw [← hnone]; exact hwr, by rw [← hnone]; exact hown, by simp, .inl rfl, Nat.le_refl _, fun _ _ _ => rfl⟩
      · have hok := topB_el ht o1
        have hbth := both hok
        by_cases hcond : (A.still f && v.tree && lf.2.isEmpty) = true
        · refine ⟨v, _, _, _, _, fin (stillF hcond), ?_, x⟩
          have := nxp
          rw [hbth] at this
          have e2 : lf = (lf.1, []) := by rw [← hnone]
          rw [← e2]
          exact this
        · exact ⟨v, _, _, _, _, fin (plainF hcond), nxp, x⟩
  · have hw : mw1 < m := ble_le hw
    have hin : mw1 ∈ lf.2 := by
      rcases nx.mw2 with e1 | e1
      · have e1 : mw1 = m := e1
        omega
      · exact List.mem_filter.2 ⟨e1, by simpa using hw⟩
    rw [minC_eq] at x
    refine ⟨v, _, _, _, _, fin (plainF ?_), plain (mw' := min mw mw1) ?_ ?_ (Nat.min_le_left _ _), x⟩
    · have : lf.2.isEmpty = false := by
        cases hl : lf.2 with
        | nil => rw [hl] at hin; cases hin
        | cons _ _ => rfl
      rw [this]
      simp
    · intro id hi
      exact Nat.le_trans (Nat.min_le_right _ _) (nx.mw id (List.mem_filter.1 hi).1)
    · by_cases hc' : mw ≤ mw1
      · exact .inl (Nat.min_eq_left hc')
      · exact .inr (by rw [Nat.min_eq_right (by omega)]; exact hin)
theorem idxC_eq (c : Nat) (k : Int → RT) : ∀ (l : List UInt8) (i : Nat), idxC c l i k = k (idxL c l i)
  | [], _ => rfl
  | b :: l, i => by
    show Bool.rec (motive := fun _ => RT) (forceN (Nat.succ i) fun i => idxC c l i k) (k (.ofNat i)) (Nat.beq b.toNat c) = _
    unfold idxL
    cases h : Nat.beq b.toNat c with
    | true => rfl
    | false =>
      show forceN (Nat.succ i) (fun i => idxC c l i k) = k (idxL c l (i + 1))
      rw [forceN_eq]
      exact idxC_eq c k l (i + 1)
theorem end_el {vs : List AV} {k : RT} (e : endE vs k = some r) : vs = [] ∧ k = some r := by
  cases vs with
  | nil => exact ⟨rfl, e⟩
  | cons _ _ => exact (nn e).elim
theorem pop_el {vs : List AV} {k : AV → List AV → RT} (e : pop vs k = some r) : ∃ a l, vs = a :: l ∧ k a l = some r := by
  cases vs with
  | nil => exact (nn e).elim
  | cons a l => exact ⟨a, l, rfl, e⟩
theorem asMap_el {v : AV} {c : Nat → RT} (h : asMap v c = some r) : ∃ i, v = .map i ∧ c i = some r := by cases v <;> first | exact ⟨_, rfl, h⟩ | exact (nn h).elim
theorem extC_ok {e : EK} {vs : List AV} {s : HS} {K : AV → HS → RT} {h : Heap} {n : Nat} (hr : Rel s h n) (x : extC e vs s K = some r) : ∃ v h' n' lg s1, extA e vs h n = some (v, h', n', lg) ∧ Nx s h n lg s1 h' n' ∧ K v s1 = some r := by
  cases e with
  | idx =>
    replace x := pop_el x
    obtain ⟨a, l, rfl, x⟩ := x
    replace x := pop_el x
    obtain ⟨b, l, rfl, x⟩ := x
    replace x := end_el x
    obtain ⟨rfl, x⟩ := x
    replace x := asStr_el x
    obtain ⟨t, rfl, x⟩ := x
    replace x := asInt_el x
    obtain ⟨k, i, rfl, x⟩ := x
    replace x := natOf_el x
    obtain ⟨c, rfl, x⟩ := x
    obtain ⟨hk, x⟩ := br_t x
    have hk : k = .u8 := by
      have := beq_eq hk
      cases k <;> first | rfl | (exact absurd this (by decide))
    subst hk
    rw [idxC_eq] at x
    refine ⟨_, h, n, ([], []), s, ?_, Nx.refl hr, x⟩
    show AM.pure (AV.int .i64 (idxL (((c : Int)).toNat.toUInt8).toNat t 0)) h n = _
    have : (((c : Int)).toNat.toUInt8).toNat = Nat.mod c 256 := by simp; rfl
    rw [this]
    rfl
  | clone =>
    replace x := pop_el x
    obtain ⟨a, l, rfl, x⟩ := x
    replace x := end_el x
    obtain ⟨rfl, x⟩ := x
    replace x := asIfc_el x
    obtain ⟨t, w, rfl, x⟩ := x
    replace x := asMap_el x
    obtain ⟨id, rfl, x⟩ := x
    obtain ⟨o, s1, h1, nx1, x⟩ := mget_el hr x
    cases o with
    | cells cs => exact (nn x).elim
    | map es =>
      replace x : mnew (.map es) s1 (fun id s => K (.ifc t (.map id)) s) = some r := x
      obtain ⟨s2, nx2, x⟩ := mnew_el nx1.rel x
      refine ⟨.ifc t (.map n), _, _, _, s2, ?_, nx1.trans nx2, x⟩
      show AM.bind (AM.get id) _ h n = _
      simp [AM.bind, AM.get, h1, AM.new, AM.pure]
def MemoOK (P : Program) (A : Ann) (f : Nat) (memo : MC) : Prop := ∀ (r : AV) vs k x, memo vs k x = some r → (∃ v, A.pure f = true ∧ AV.trees vs = true ∧ PureC P A f vs v ∧ k v = some r) ∨ x = some r
def F2ok (P : Program) (A : Ann) (f : Nat) : F2 → Prop
  | .fn code still => CodeOK P A f code ∧ A.pure f = false ∧ still = A.still f
  | .pur code still memo => CodeOK P A f code ∧ A.pure f = true ∧ still = A.still f ∧ MemoOK P A f memo
  | .ext e still => A.ext.lookup f = some e ∧ (∃ fn, P.funcs[f]? = some fn ∧ fn.body = none) ∧ A.pure f = false ∧ still = A.still f
theorem fe2_of {np : Nat} {an : List JJ} {q : List Nat} {e : F2} (h : feQ P A f np an q = some e) : F2ok P A f e := by
  unfold feQ at h
  split at h
  · rename_i fn hfn
    split at h
    · rename_i c rs hc hrs
      split at h
      · rename_i ej l' hj
        split at h
        · rename_i hn
          simp only [Bool.and_eq_true, bne_iff_ne, ne_eq] at hn
          cases hb : fn.body with
          | none => rw [hb] at hc; cases hc
          | some c0 =>
            rw [hb, Option.bind_some] at hc
            have code := fnQ_ok (q := q) (A := A) (fz := A.fz f) hfn hb hc hrs (by simpa using hn.1.1.1) hn.1.1.2 (annJ_ok hj) (ble_le hn.2) (ble_le hn.1.2) rfl
            simp only [Option.some.injEq] at h
            subst h
            cases hp : A.pure f with
            | true => exact ⟨code, hp, rfl, fun _ _ _ _ h => .inr h⟩
            | false => exact ⟨code, hp, rfl⟩
        · cases h
      · cases h
    · cases h
  · cases h
theorem fe2_memo {code : F2C} {still : Bool} {memo : MC} (h : F2ok P A f (.pur code still memo)) {v : AV} (hv : PureC P A f [] v) : F2ok P A f (.pur code still (mVal v)) := by
  refine ⟨h.1, h.2.1, h.2.2.1, fun r vs k x hx => ?_⟩
  cases vs with
  | nil => exact .inl ⟨v, h.2.1, by simp [AV.trees], hv, hx⟩
  | cons a l => exact .inr hx
theorem callF_ok {e : F2} (he : F2ok P A f e) {cl : CL} (hc : CLok P A cl) {kk : Nat} {vs : List AV} {s : HS} {K : AV → HS → RT} {h : Heap} {n : Nat} (hr : Rel s h n) (x : callF e cl kk vs s K = some r) :
    ∃ v h' n' lg s1, (∃ k0, ∀ k, k0 ≤ k → callN P A k f vs h n = some (v, h', n', lg)) ∧ Nx s h n lg s1 h' n' ∧ K v s1 = some r := by
  have wi : ∀ {code : F2C} {still : Bool}, CodeOK P A f code → still = A.still f → A.pure f = false ∨ AV.trees vs = false → withE code still cl kk vs s K = some r → ∃ v h' n' lg s1, (∃ k0, ∀ k, k0 ≤ k → callN P A k f vs h n = some (v, h', n', lg)) ∧ Nx s h n lg s1 h' n' ∧ K v s1 = some r := by
    intro code still hcode hst hp x
    obtain ⟨v, h', n', lg, s1, ⟨k0, hk⟩, nx, x⟩ := withE_ok hcode hst hc hr x
    refine ⟨v, h', n', lg, s1, ⟨k0 + 1, fun k hle => ?_⟩, nx, x⟩
    obtain ⟨k, rfl⟩ : ∃ i, k = i + 1 := ⟨k - 1, by omega⟩
    unfold callN
    rw [if_neg (by rcases hp with hp | hp <;> rw [hp] <;> simp)]
    exact hk k (by omega)
  cases e with
  | fn code still => exact wi he.1 he.2.2 (.inl he.2.1) x
  | pur code still memo =>
    obtain ⟨hcode, hpure, hst, hmemo⟩ := he
    replace x : memo vs (fun v => K v s) (Bool.rec (motive := fun _ => RT) (withE code still cl kk vs s K) (aloneE code cl kk vs s K) (treesB vs)) = some r := x
    rcases hmemo _ _ _ _ x with ⟨v, p1, p2, p3, x⟩ | x
    · obtain ⟨k0, n0, hv⟩ := p3 h n hr.fresh
      refine ⟨v, h, n, ([], []), s, ⟨k0, fun k hk => ?_⟩, Nx.refl hr, x⟩
      cases k0 with
      | zero => cases hv
      | succ k1 =>
        have hn : n0 = n := by
          unfold callN at hv
          rw [if_pos (by rw [p1, p2]; rfl)] at hv
          exact (alone_some hv).2.1
        subst hn
        exact le_callN hk f vs _ _ _ hv
    · rcases br_b x with ⟨ht, x⟩ | ⟨ht, x⟩
      · rw [treesB_eq] at ht
        exact wi hcode hst (.inr ht) x
      · rw [treesB_eq] at ht
        replace x : code cl kk vs hs0 (fun v _ => Bool.rec (motive := fun _ => RT) none (K v s) (treeB v)) = some r := x
        obtain ⟨v, bx1, h1, n1, lg, s1, ⟨k0, hk⟩, nx, hb, x⟩ := hcode cl hc kk vs hs0 _ (fun _ => none) 0 r rfl ⟨fun _ => rfl, trivial, rfl, Nat.le_refl _, Nat.le_refl _⟩ x
        obtain ⟨hv, x⟩ := br_t x
        rw [treeB_eq] at hv
        refine ⟨v, h, n, ([], []), s, ⟨k0 + 1, fun k hle => ?_⟩, Nx.refl hr, x⟩
        obtain ⟨k, rfl⟩ : ∃ i, k = i + 1 := ⟨k - 1, by omega⟩
        unfold callN
        rw [if_pos (by rw [hpure, ht]; rfl)]
        have : ∃ w, callO (callN P A k) P A k f vs (fun _ => none) 0 = some (v, w) := by
          unfold callO
          rw [hk k (by omega)]
          unfold finish
          simp only
          split <;> exact ⟨_, rfl⟩
        obtain ⟨⟨a, b, c⟩, hw⟩ := this
        exact alone_of hv hw h n
  | ext e still =>
    obtain ⟨hl, ⟨fn, hfn, hbd⟩, hpure, hst⟩ := he
    refine wi (code := fun _ _ vs s K => extC e vs s K) ?_ hst (.inl hpure) x
    intro cl hc kk vs s K h n r hbx hr x
    obtain ⟨v, h', n', lg, s1, h1, nx, x⟩ := extC_ok hr x
    refine ⟨v, [], h', n', lg, s1, ⟨0, fun k _ => ?_⟩, nx.ub, by rw [nx.bx]; exact hbx, x⟩
    unfold body
    rw [hfn]
    simp only [hbd, hl]
    have := am_bind (g := fun v => AM.pure (v, ([] : List Nat))) (l2 := ([], [])) h1 rfl
    simpa using this
def TBok2 (P : Program) (A : Ann) (T : TB2) : Prop := ∀ (r : AV) g k, get4E (toD4 g) T k = some r → ∃ e, F2ok P A g e ∧ k e = some r
theorem callE_ok {T : TB2} (hT : TBok2 P A T) : ∀ k, CLok P A (callE T k)
  | 0 => ⟨fun r g vs s K h n hr e => (nn e).elim, fun r vs s K e => (nn e).elim⟩
  | k + 1 => ⟨fun r g vs s K h n hr x => by
    replace x : remQ (toD4 g) vs s K (get4E (toD4 g) T fun e => callF e (callE T k) k vs s K) = some r := x
    have x : get4E (toD4 g) T (fun e => callF e (callE T k) k vs s K) = some r := by
      unfold toD4 at x ⊢
      cases hb : Nat.ble g 4095 <;> (rw [hb] at x; exact x)
    obtain ⟨e, he, x⟩ := hT _ _ _ x
    exact callF_ok he (callE_ok hT k) hr x, fun r vs s K x => x⟩
theorem runE_ok {T : TB2} (hT : TBok2 P A T) {k g : Nat} {vs : List AV} {v : AV} (x : runE k T g vs = some v) : ∃ k h' n' lg, callN P A k g vs (fun _ => none) 0 = some (v, h', n', lg) := by
  obtain ⟨w, h', n', lg, s1, ⟨k0, hk⟩, _, e⟩ := (callE_ok hT k).1 _ g vs hs0 (fun v _ => some v) (fun _ => none) 0 ⟨fun _ => rfl, trivial, rfl, Nat.le_refl _, Nat.le_refl _⟩ x
  have : w = v := by simpa using e
  subst this
  exact ⟨k0, h', n', lg, hk k0 (Nat.le_refl _)⟩
theorem runE_pure {T : TB2} (hT : TBok2 P A T) {k g : Nat} {vs : List AV} {v : AV} (hp : A.pure g = true) (ht : AV.trees vs = true) (x : runE k T g vs = some v) : PureC P A g vs v := by
  obtain ⟨k, h', n', lg, e⟩ := runE_ok hT x
  exact pure_eval k hp ht (by unfold hp0; rw [e]; rfl)
def Ok2 (P : Program) (A : Ann) (i : Nat) : Option F2 → Prop
  | none => True
  | some e => F2ok P A i e
structure L8 {β : Type} (p : Nat → β → Prop) (T : N8 β) : Prop where
  c0 : p 0 T.c0
  c1 : p 1 T.c1
  c2 : p 2 T.c2
  c3 : p 3 T.c3
  c4 : p 4 T.c4
  c5 : p 5 T.c5
  c6 : p 6 T.c6
  c7 : p 7 T.c7
theorem L8.at {β : Type} {p : Nat → β → Prop} {T : N8 β} (h : L8 p T) : ∀ d, d < 8 → p d (sel d T) := by
  intro d hd
  obtain rfl | rfl | rfl | rfl | rfl | rfl | rfl | rfl : d = 0 ∨ d = 1 ∨ d = 2 ∨ d = 3 ∨ d = 4 ∨ d = 5 ∨ d = 6 ∨ d = 7 := by omega
  · exact h.c0
  · exact h.c1
  · exact h.c2
  · exact h.c3
  · exact h.c4
  · exact h.c5
  · exact h.c6
  · exact h.c7
def Lf (P : Program) (A : Ann) (b : Nat) (T : N8 (Option F2)) : Prop := L8 (fun d => Ok2 P A (b + d)) T
def Lg (P : Program) (A : Ann) (b : Nat) (T : N8 (N8 (Option F2))) : Prop := L8 (fun d => Lf P A (b + 8 * d)) T
def Lh (P : Program) (A : Ann) (b : Nat) (T : N8 (N8 (N8 (Option F2)))) : Prop := L8 (fun d => Lg P A (b + 64 * d)) T
def Li (P : Program) (A : Ann) (T : TB2) : Prop := L8 (fun d => Lh P A (512 * d)) T
theorem dg_s {β : Type} (d : Nat) (hd : d < 8) (T : N8 β) (k : β → RT) : (dg d).s T k = k (sel d T) := by
  obtain rfl | rfl | rfl | rfl | rfl | rfl | rfl | rfl : d = 0 ∨ d = 1 ∨ d = 2 ∨ d = 3 ∨ d = 4 ∨ d = 5 ∨ d = 6 ∨ d = 7 := by omega
  all_goals rfl
theorem tb2_ok {T : TB2} (h : Li P A T) : TBok2 P A T := by
  intro r g k x
  unfold toD4 at x
  cases hg : Nat.ble g 4095 with
  | false => rw [hg] at x; exact (nn x).elim
  | true =>
    have hle := ble_le hg
    rw [hg] at x
    replace x : (dg (g / 512)).s T (fun T => (dg (g / 64 % 8)).s T fun T => (dg (g / 8 % 8)).s T fun T => (dg (g % 8)).s T (orN k)) = some r := x
    rw [dg_s _ (by omega), dg_s _ (by omega), dg_s _ (by omega), dg_s _ (by omega)] at x
    have h1 := h.at (g / 512) (by omega)
    have h2 := L8.at h1 (g / 64 % 8) (by omega)
    have h3 := L8.at h2 (g / 8 % 8) (by omega)
    have h4 := L8.at h3 (g % 8) (by omega)
    have hi : 512 * (g / 512) + 64 * (g / 64 % 8) + 8 * (g / 8 % 8) + g % 8 = g := by omega
    rw [hi] at h4
    generalize sel (g % 8) (sel (g / 8 % 8) (sel (g / 64 % 8) (sel (g / 512) T))) = o at x h4
    cases o with
    | none => exact (nn x).elim
    | some e => exact ⟨e, h4, x⟩
end
end Go.Abs
end
