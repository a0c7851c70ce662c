/- The quick evaluator is sound: each operation. -/
import Derived.Test.YtpkplkccncfkgaaGreatAbsEHd
namespace Go.Abs

def CLok (P : Program) (A : Ann) (cl : CL) : Prop := (∀ (r : AV) g vs s K h n, Rel s h n → cl (toD4 g) vs s K = some r →
  ∃ v h' n' lg s1, (∃ k0, ∀ k, k0 ≤ k → callN P A k g vs h n = some (v, h', n', lg)) ∧ Nx s h n lg s1 h' n' ∧ K v s1 = some r) ∧
  ∀ (r : AV) vs s K, cl .rem vs s K = some r → remV vs (fun v => K v s) = some r

def HOK (P : Program) (A : Ann) (f : Nat) (k : SK) : Prop := ∀ (r : AV) cl (o : Oper) R s K rg h n, CLok P A cl → k = slAll P A f o.dst o.op → Regs R rg → Rel s h n → kC k cl R s K = some r → HOut P A f o rg s h n K r

def plainK : SK → Bool
  | .box _ | .bsl _ _ _ _ | .call _ _ | .inv _ _ _ | .b2s _ | .ld _ _ => false
  | k => !heapy k

section
variable {P : Program} {A : Ann} {f : Nat} {r : AV}

theorem ok_plain {k : SK} (hp : plainK k = true) (pl : PlOk k (kC k)) : HOK P A f k := by
  intro r cl o R s K rg h n _ he hs hr e
  have hh : heapy k = false := by
    unfold plainK at hp
    split at hp <;> first | (cases hp; done) | simpa using hp
  have hk := getD_raw he hh
  have hi := ei_inv hk
  have hi : roAt A f o.dst = false ∧ isBox o.op = false ∧ NC o.op := by
    cases k <;> first | exact hi | cases hp
  obtain ⟨v, h1, h2⟩ := pl _ _ _ _ _ e
  rw [hi.1] at hk
  exact out_plain hk hi.1 hi.2.1 hi.2.2 hs hr h1 h2

theorem ok_ld (x : SX) (m : Option Nat) : HOK P A f (.ld x m) := by
  intro r cl o R s K rg h n _ he hs hr e
  obtain ⟨t, x0, hop, q1, q2, hro⟩ := load_inv he
  replace e : evC x R (fun v => ldA v (takeC m) s K) = some r := e
  replace e := evC_el e
  obtain ⟨p, h1, e⟩ := e
  replace e := ldA_el q2 hr e
  obtain ⟨v, lg, s1, h2, nx, e⟩ := e
  refine out_of (fun call => ?_) (.inl (by rw [hop]; rfl)) nx e
  rw [opV_plain (by simp [NC, hop]) hro, hop]
  simp only [opM, ev_sound hs.sat q1 h1, lift_some_eq, pure_bind]
  exact h2

theorem ok_box (x : SX) : HOK P A f (.box x) := by
  intro r cl o R s K rg h n _ he hs hr e
  obtain ⟨t, x0, hop, q1, hro⟩ := ei_inv (getD_raw he rfl)
  replace e : evC x R (fun v => cellsB v fun cs => Bool.rec (motive := fun _ => RT) none (mtick s fun _ s => K (.tptr cs 0) s) (onesB cs)) = some r := e
  replace e := evC_el e
  obtain ⟨v, h1, e⟩ := e
  rw [cellsB_eq] at e
  replace e := br_t e
  obtain ⟨h2, e⟩ := e
  rw [onesB_eq] at h2
  replace e := mtick_el hr e
  obtain ⟨s1, nx, e⟩ := e
  refine out_of (fun call => ?_) (.inr ⟨_, _, rfl⟩) nx e
  rw [opV_shut (by simp [NC, hop]) hro, hop]
  simp only [opM, ev_sound hs.sat q1 h1, lift_some_eq, pure_bind, h2, if_true]
  refine shut_new (k := fun id => .ptr id 0) hr ?_
  simp [frz1, AM.bind, AM.get, AM.kill, AM.pure, upd]

theorem slice_all {cs : List AV} {m : Nat} (h : cs.length = m) : sliceL cs 0 m = some cs := by
  unfold sliceL
  rw [if_pos (by omega)]
  simp [← h]

theorem ok_bsl (z : List AV) (s' m : Nat) (ps : List (Nat × Nat × SX)) : HOK P A f (.bsl z s' m ps) := by
  intro r cl o R s K rg h n _ he hs hr e
  obtain ⟨t, ps0, e', zz, hop, q1, q2, q3, q4, q5, q6, hro⟩ := ei_inv (getD_raw he rfl)
  replace e : fillC ps R z (fun cs => Bool.rec (motive := fun _ => RT) none (Bool.rec (motive := fun _ => RT) none (mtick s fun _ s => K (.tsl cs m) s) (onesB cs)) (Nat.beq (lenN cs) (Nat.mul m s'))) = some r := e
  replace e := fillC_el e
  obtain ⟨cs, h1, e⟩ := e
  replace e := br_t e
  obtain ⟨h2, e⟩ := e
  replace e := br_t e
  obtain ⟨h3, e⟩ := e
  have h2 := beq_eq h2
  rw [lenN_eq] at h2
  rw [onesB_eq] at h3
  replace e := mtick_el hr e
  obtain ⟨s1, nx, e⟩ := e
  obtain ⟨vs, e1, e2⟩ := fillS_sound hs.sat q5 h1
  refine out_of (fun call => ?_) (.inl (by rw [hop]; rfl)) nx e
  rw [opV_shut (by simp [NC, hop]) hro, hop]
  simp only [opM, e1, lift_some_eq, pure_bind, buildSliceA, q1, q2, q3]
  rw [if_pos q4, ← q6]
  simp only [e2, lift_some_eq, pure_bind, h3, if_true]
  refine shut_new (k := fun id => .sl id 0 m s') hr ?_
  have h4 : sliceL cs 0 (m * s') = some cs := slice_all h2
  simp [frz1, AM.bind, AM.get, AM.kill, AM.pure, upd, AM.lift, h4]

theorem ok_b2s (x : SX) : HOK P A f (.b2s x) := by
  intro r cl o R s K rg h n _ he hs hr e
  obtain ⟨ty, d, x0, e', hop, q1, q2, q3, q4, hro⟩ := ei_inv (getD_raw he rfl)
  replace e : evC x R (fun v => b2sA v s K) = some r := e
  replace e := evC_el e
  obtain ⟨v, h1, e⟩ := e
  have hv : ∀ call, opV call P A f o rg = convertA P ty d v := by
    intro call
    rw [opV_plain (by simp [NC, hop]) hro, hop]
    simp only [opM, ev_sound hs.sat q1 h1, lift_some_eq, pure_bind]
  have hb : isBox o.op = false := by rw [hop]; rfl
  cases v with
  | nil k =>
    cases k with
    | sl =>
      refine out_of (fun call => ?_) (.inl hb) (Nx.refl hr) e
      rw [hv]
      simp [convertA, q2, q3, q4, AM.pure]
    | _ => exact (nn e).elim
  | sl id off len sz =>
    replace e : Bool.rec (motive := fun _ => RT) none (mcells id s fun cs s => sliC cs off len fun l => u8C l fun t => K (.str t) s) (Nat.beq sz 1) = some r := e
    replace e := br_t e
    obtain ⟨h2, e⟩ := e
    have h2 := beq_eq h2
    replace e := mcells_el hr e
    obtain ⟨cs, s1, h3, nx, e⟩ := e
    replace e := sliC_el e
    obtain ⟨l, h4, e⟩ := e
    replace e := u8C_el e
    obtain ⟨t, h5, e⟩ := e
    refine out_of (fun call => ?_) (.inl hb) nx e
    rw [hv]
    simp [convertA, q2, q3, q4, h2, AM.bind, cellsAt, AM.get, h3, AM.lift, h4, h5, AM.pure]
  | tsl cs len =>
    replace e : sliC cs 0 len (fun l => u8C l fun t => K (.str t) s) = some r := e
    replace e := sliC_el e
    obtain ⟨l, h4, e⟩ := e
    replace e := u8C_el e
    obtain ⟨t, h5, e⟩ := e
    refine out_of (fun call => ?_) (.inl hb) (Nx.refl hr) e
    rw [hv]
    simp [convertA, q2, q3, q4, AM.bind, AM.lift, h4, h5, AM.pure]
  | _ => exact (nn e).elim

/- calls -/
theorem callV_out {cl : CL} {o : Oper} {R : RG} {s : HS} {K : AV → HS → RT} {rg : Nat → AV} {h : Heap} {n : Nat} {x : SX} {args : List SX} (hc : CLok P A cl) (he : SK.call x args = slAll P A f o.dst o.op) (hs : Regs R rg) (hr : Rel s h n)
    {g : Nat} {a b vs : List AV} (h1 : ev (R3 R) x = some (.fn g a b)) (h2 : evS (R3 R) args = some vs) (e : cl (toD4 g) (a ++ vs ++ b) s K = some r) : HOut P A f o rg s h n K r := by
  obtain ⟨x0, a0, ts, hop, q1, q2⟩ := ei_inv (getD_raw he rfl)
  obtain ⟨v, h', n', lg, s1, ⟨k0, hk⟩, nx, e⟩ := hc.1 _ _ _ _ _ _ _ hr e
  refine ⟨v, h', n', lg, s1, ⟨k0, fun k hl => ?_⟩, nx, by rw [push_no (.inl (by rw [hop]; rfl))]; exact e⟩
  unfold opV
  rw [hop]
  simp only [ev_sound hs.sat q1 h1, slXs_sound hs.sat q2 h2, lift_some_eq, pure_bind]
  exact hk k hl
theorem ok_call (x : SX) (args : List SX) : HOK P A f (.call x args) := by
  intro r cl o R s K rg h n hc he hs hr e
  have dyn : ∀ {y : SX}, y = x → hCallV (evC y) (evL args) cl R s K = some r → HOut P A f o rg s h n K r := by
    rintro y rfl e
    replace e : evC y R (fun v => evL args R fun vs => asFn v fun g a b => catC vs b fun vs => catC a vs fun vs => cl (toD4 g) vs s K) = some r := e
    replace e := evC_el e
    obtain ⟨v, h1, e⟩ := e
    replace e := evL_el e
    obtain ⟨vs, h2, e⟩ := e
    replace e := asFn_el e
    obtain ⟨g, a, b, rfl, e⟩ := e
    rw [catC_eq, catC_eq, ← List.append_assoc] at e
    exact callV_out hc he hs hr h1 h2 e
  cases x with
  | r t => exact dyn rfl e
  | c v =>
    cases v with
    | fn g a b =>
      cases a with
      | cons _ _ => exact dyn rfl e
      | nil => cases b with
        | cons _ _ => exact dyn rfl e
        | nil =>
          replace e : evL args R (fun vs => cl (toD4 g) vs s K) = some r := e
          replace e := evL_el e
          obtain ⟨vs, h2, e⟩ := e
          exact callV_out (a := []) (b := []) hc he hs hr rfl h2 (by simpa using e)
    | _ => exact dyn rfl e

/- a method is called -/
theorem findT_el {t : Nat} {k : Nat → Option (Option Nat) → RT} : ∀ {l : IT}, findT t k l = some r → ∃ g h, (t, g, h) ∈ l ∧ k g h = some r
  | [], e => (nn e).elim
  | (u, g, h) :: l, e => by
    replace e : Bool.rec (motive := fun _ => RT) (findT t k l) (k g h) (Nat.beq t u) = some r := e
    replace e := br_b e
    rcases e with ⟨_, e⟩ | ⟨h1, e⟩
    · obtain ⟨g', h', a, b⟩ := findT_el e
      exact ⟨g', h', List.mem_cons_of_mem _ a, b⟩
    · exact ⟨g, h, by rw [beq_eq h1]; simp, e⟩
theorem invT_mem {m : String} {t g : Nat} {hh : Option (Option Nat)} (h : (t, g, hh) ∈ invT P m) : (hh = none ∧ methA P t m = some (g, none)) ∨ ∃ e mm, hh = some mm ∧ methA P t m = some (g, some e) ∧ cellsN P e = some mm := by
  unfold invT at h
  obtain ⟨u, _, h⟩ := List.mem_filterMap.1 h
  split at h
  · rename_i g' hm
    simp only [Option.some.injEq, Prod.mk.injEq] at h
    obtain ⟨rfl, rfl, rfl⟩ := h
    exact .inl ⟨rfl, hm⟩
  · rename_i g' e hm
    obtain ⟨mm, h1, h2⟩ := omap h
    simp only [Prod.mk.injEq] at h2
    obtain ⟨rfl, rfl, rfl⟩ := h2
    exact .inr ⟨e, mm, rfl, hm, h1⟩
  · cases h
theorem ok_inv (l : IT) (x : SX) (args : List SX) : HOK P A f (.inv l x args) := by
  intro r cl o R s K rg h n hc he hs hr e
  obtain ⟨x0, m, a0, ts, hop, q1, q2, rfl⟩ := ei_inv (getD_raw he rfl)
  replace e : evC x R (fun v => evL args R fun vs => asIfc v fun t v => findT t (fun g h => Option.rec (motive := fun _ => RT) (cl (toD4 g) (v :: vs) s K) (fun m => ldA v (takeC m) s fun u s => cl (toD4 g) (u :: vs) s K) h) (invT P m)) = some r := e
  replace e := evC_el e
  obtain ⟨v, h1, e⟩ := e
  replace e := evL_el e
  obtain ⟨vs, h2, e⟩ := e
  replace e := asIfc_el e
  obtain ⟨t, w, rfl, e⟩ := e
  replace e := findT_el e
  obtain ⟨g, hh, h3, e⟩ := e
  have hb : isBox o.op = false := by rw [hop]; rfl
  rcases invT_mem h3 with ⟨rfl, hm⟩ | ⟨el, mm, rfl, hm, hce⟩
  · replace e : cl (toD4 g) (w :: vs) s K = some r := e
    obtain ⟨v, h', n', lg, s1, ⟨k0, hk⟩, nx, e⟩ := hc.1 _ _ _ _ _ _ _ hr e
    refine ⟨v, h', n', lg, s1, ⟨k0, fun k hl => ?_⟩, nx, by rw [push_no (.inl hb)]; exact e⟩
    unfold opV
    rw [hop]
    simp only [ev_sound hs.sat q1 h1, hm, slXs_sound hs.sat q2 h2, lift_some_eq, pure_bind]
    exact hk k hl
  · replace e : ldA w (takeC mm) s (fun u s => cl (toD4 g) (u :: vs) s K) = some r := e
    replace e := ldA_el hce hr e
    obtain ⟨u, l1, s1, h4, nx1, e⟩ := e
    obtain ⟨v, h', n', lg, s2, ⟨k0, hk⟩, nx, e⟩ := hc.1 _ _ _ _ _ _ _ nx1.rel e
    refine ⟨v, h', n', _, s2, ⟨k0, fun k hl => ?_⟩, nx1.trans nx, by rw [push_no (.inl hb)]; exact e⟩
    unfold opV
    rw [hop]
    simp only [ev_sound hs.sat q1 h1, hm, slXs_sound hs.sat q2 h2, lift_some_eq, pure_bind]
    exact bind_run h4 (hk k hl)

/- new objects -/
theorem boxD_out {esc : Bool} {cs : List AV} {o : Oper} {d : Nat} {s : HS} {K : AV → HS → RT} {rg : Nat → AV} {h : Heap} {n : Nat} (hr : Rel s h n) (hd : o.dst = some d) (hb : isBox o.op = true) (hesc : A.esc f d = esc)
    (hv : ∀ call, opV call P A f o rg = AM.bind (AM.new (.cells cs)) fun id => AM.pure (.ptr id 0)) (e : boxD esc cs s K = some r) : HOut P A f o rg s h n K r := by
  unfold boxD at e
  replace e := mnew_el hr e
  obtain ⟨s1, nx, e⟩ := e
  refine ⟨.ptr n 0, _, _, ([], []), s1, ⟨0, fun k _ => by rw [hv]; rfl⟩, nx, ?_⟩
  unfold pushB
  rw [hd]
  simp only [hb, hesc, Bool.true_and]
  cases esc with
  | true => exact e
  | false =>
    obtain ⟨H, m, bx, thr, rd, wr, mw⟩ := s1
    exact e
theorem ok_hbox (esc : Bool) (x : SX) : HOK P A f (.hbox esc x) := by
  intro r cl o R s K rg h n _ he hs hr e
  obtain ⟨d, t, x0, hd, hop, q1, hro, hesc⟩ := slH_inv (getH he rfl (by simp))
  replace e : evC x R (fun v => cellsB v fun cs => Bool.rec (motive := fun _ => RT) none (boxD esc cs s K) (onesB cs)) = some r := e
  replace e := evC_el e
  obtain ⟨v, h1, e⟩ := e
  rw [cellsB_eq] at e
  replace e := br_t e
  obtain ⟨h2, e⟩ := e
  rw [onesB_eq] at h2
  refine boxD_out hr hd (by rw [hop]; rfl) hesc (fun call => ?_) e
  rw [opV_plain (by simp [NC, hop]) hro, hop]
  simp only [opM, ev_sound hs.sat q1 h1, lift_some_eq, pure_bind, h2, if_true]
theorem ok_alc (esc : Bool) (z : List AV) : HOK P A f (.alc esc z) := by
  intro r cl o R s K rg h n _ he hs hr e
  obtain ⟨d, t, zz, hd, hop, q1, rfl, q2, q3, hro, hesc⟩ := slH_inv (getH he rfl (by simp))
  refine boxD_out hr hd (by rw [hop]; rfl) hesc (fun call => ?_) e
  rw [opV_plain (by simp [NC, hop]) hro, hop]
  simp only [opM, q1, lift_some_eq, pure_bind]
  rw [if_pos ⟨q2, q3⟩]
theorem ok_hbs (z : List AV) (s' m : Nat) (ps : List (Nat × Nat × SX)) : HOK P A f (.hbs z s' m ps) := by
  intro r cl o R s K rg h n _ he hs hr e
  obtain ⟨t, ps0, e', zz, hop, q1, q2, q3, q4, q5, q6, hro⟩ := slH_inv (getH he rfl (by simp))
  replace e : fillC ps R z (fun cs => Bool.rec (motive := fun _ => RT) none (mnew (.cells cs) s fun id s => K (.sl id 0 m s') s) (onesB cs)) = some r := e
  replace e := fillC_el e
  obtain ⟨cs, h1, e⟩ := e
  replace e := br_t e
  obtain ⟨h3, e⟩ := e
  rw [onesB_eq] at h3
  replace e := mnew_el hr e
  obtain ⟨s1, nx, e⟩ := e
  obtain ⟨vs, e1, e2⟩ := fillS_sound hs.sat q5 h1
  refine out_of (fun call => ?_) (.inl (by rw [hop]; rfl)) nx e
  rw [opV_plain (by simp [NC, hop]) hro, hop]
  simp only [opM, e1, lift_some_eq, pure_bind, buildSliceA, q1, q2, q3]
  rw [if_pos q4, ← q6]
  simp only [e2, lift_some_eq, pure_bind, h3, if_true]
  rfl
/- made: a slice, or frozen at once -/
theorem mkD_out {ro : Bool} {cs : List AV} {m s' : Nat} {o : Oper} {s : HS} {K : AV → HS → RT} {rg : Nat → AV} {h : Heap} {n : Nat} (hr : Rel s h n) (hb : isBox o.op = false) (hnc : NC o.op) (hro : roAt A f o.dst = ro)
    (hl : cs.length = m * s') (hv : opM P (evalA A rg) o.op = AM.bind (AM.new (.cells cs)) fun id => AM.pure (.sl id 0 m s')) (e : mkD ro cs m s' s K = some r) : HOut P A f o rg s h n K r := by
  cases ro with
  | false =>
    replace e : mnew (.cells cs) s (fun id s => K (.sl id 0 m s') s) = some r := e
    replace e := mnew_el hr e
    obtain ⟨s1, nx, e⟩ := e
    refine out_of (fun call => ?_) (.inl hb) nx e
    rw [opV_plain hnc hro, hv]
    rfl
  | true =>
    replace e : mtick s (fun _ s => K (.tsl cs m) s) = some r := e
    replace e := mtick_el hr e
    obtain ⟨s1, nx, e⟩ := e
    refine out_of (fun call => ?_) (.inl hb) nx e
    rw [opV_shut hnc hro, hv]
    refine shut_new (k := fun id => .sl id 0 m s') hr ?_
    have h4 : sliceL cs 0 (m * s') = some cs := slice_all hl
    simp [frz1, AM.bind, AM.get, AM.kill, AM.pure, upd, AM.lift, h4]
theorem ok_mks (ro : Bool) (z : List AV) (s' b : Nat) (x y : SX) : HOK P A f (.mks ro z s' b x y) := by
  intro r cl o R s K rg h n _ he hs hr e
  obtain ⟨t, l0, c0, e', zz, hop, q1, q2, q3, q4, q5, q6, rfl, q8, q9, q10, hro⟩ := slH_inv (getH he rfl (by simp))
  replace e : evC x R (fun x => evC y R fun y => asInt x fun k n => asInt y fun k' m => Bool.rec (motive := fun _ => RT) none (Bool.rec (motive := fun _ => RT) none (natOf n fun n => natOf m fun m => Bool.rec (motive := fun _ => RT) none (Bool.rec (motive := fun _ => RT) none
    (repC zz.cells n [] fun cs => mkD ro cs n s' s K) (Nat.ble (Nat.mul n (Nat.succ b)) 1099511627776)) (Nat.beq n m)) (Nat.beq (kI k') 3)) (Nat.beq (kI k) 3)) = some r := e
  replace e := evC_el e
  obtain ⟨vx, h1, e⟩ := e
  replace e := evC_el e
  obtain ⟨vy, h2, e⟩ := e
  replace e := asInt_el e
  obtain ⟨k, i, rfl, e⟩ := e
  replace e := asInt_el e
  obtain ⟨k', j, rfl, e⟩ := e
  replace e := br_t e
  obtain ⟨h3, e⟩ := e
  replace e := br_t e
  obtain ⟨h4, e⟩ := e
  have h3 : k = .i64 := kI_inj (beq_eq h3)
  have h4 : k' = .i64 := kI_inj (beq_eq h4)
  subst h3
  subst h4
  replace e := natOf_el e
  obtain ⟨i, rfl, e⟩ := e
  replace e := natOf_el e
  obtain ⟨j, rfl, e⟩ := e
  replace e := br_t e
  obtain ⟨h5, e⟩ := e
  replace e := br_t e
  obtain ⟨h6, e⟩ := e
  have h5 := beq_eq h5
  subst h5
  have h6 : i * (b + 1) ≤ 1099511627776 := ble_le h6
  rw [rep_eq, List.append_nil] at e
  have hz : zerosA zz.cells (i * s') = (List.replicate i zz.cells).flatten := by rw [← q9]; exact zeros_eq _ _
  have hl : ((List.replicate i zz.cells).flatten).length = i * s' := by rw [← hz]; simp [zerosA]
  refine mkD_out hr (by rw [hop]; rfl) (by simp [NC, hop]) hro.symm hl ?_ e
  rw [hop]
  simp only [opM, ev_sound hs.sat q1 h1, ev_sound hs.sat q2 h2, lift_some_eq, pure_bind, makeSliceA, q3, q4, q5, q6, i64A]
  rw [if_pos ⟨by trivial, by omega, by exact_mod_cast h6, q8, q9, q10⟩]
  simp only [Int.toNat_natCast, hz]
theorem ok_s2b (ro : Bool) (x : SX) : HOK P A f (.s2b ro x) := by
  intro r cl o R s K rg h n _ he hs hr e
  obtain ⟨ty, d, x0, e', hop, q1, q2, q3, q4, hro⟩ := slH_inv (getH he rfl (by simp))
  replace e : evC x R (fun x => asStr x fun t => bytesC t fun l => forceN (lenN t) fun n => mkD ro l n 1 s K) = some r := e
  replace e := evC_el e
  obtain ⟨v, h1, e⟩ := e
  replace e := asStr_el e
  obtain ⟨t, rfl, e⟩ := e
  rw [bytesC_eq, forceN_eq, lenN_eq] at e
  refine mkD_out hr (by rw [hop]; rfl) (by simp [NC, hop]) hro.symm (by simp) ?_ e
  rw [hop]
  simp only [opM, ev_sound hs.sat q1 h1, lift_some_eq, pure_bind, convertA, q2, q3, q4, if_true]

theorem ok_st (x y : SX) (m : Nat) : HOK P A f (.st x y m) := by
  intro r cl o R s K rg h n _ he hs hr e
  obtain ⟨t, a, x0, hop, q1, q2, q3, hro⟩ := slH_inv (getH he rfl (by simp))
  replace e : evC x R (fun p => evC y R fun v => asPtr p fun id off => cellsB v fun vs => Bool.rec (motive := fun _ => RT) none (stoC id off vs s fun _ s => K .undef s) (Nat.beq (lenN vs) m)) = some r := e
  replace e := evC_el e
  obtain ⟨p, h1, e⟩ := e
  replace e := evC_el e
  obtain ⟨v, h2, e⟩ := e
  replace e := asPtr_el e
  obtain ⟨id, off, rfl, e⟩ := e
  rw [cellsB_eq] at e
  replace e := br_t e
  obtain ⟨h3, e⟩ := e
  have h3 := beq_eq h3
  rw [lenN_eq] at h3
  replace e := sto_el hr e
  obtain ⟨h', s1, h4, nx, e⟩ := e
  refine out_of (fun call => ?_) (.inl (by rw [hop]; rfl)) nx e
  rw [opV_plain (by simp [NC, hop]) hro, hop]
  simp only [opM, ev_sound hs.sat q1 h1, ev_sound hs.sat q2 h2, lift_some_eq, pure_bind, storeT, q3, h3, if_true]
  unfold AM.bind
  rw [h4]
  simp [AM.pure]

theorem ok_cvs (x : SX) : HOK P A f (.cvs x) := by
  intro r cl o R s K rg h n _ he hs hr e
  obtain ⟨ty, d, x0, e0, e', hop, q1, q2, q3, q4, q5, hro⟩ := slH_inv (getH he rfl (by simp))
  replace e : evC x R (fun v => asSl v fun id off len sz => Bool.rec (motive := fun _ => RT) none (Bool.rec (motive := fun _ => RT) none (mcells id s fun cs s => sliC cs off len fun _ => K (.sl id off len sz) s) (Nat.beq sz 1)) (Nat.ble 1 len)) = some r := e
  replace e := evC_el e
  obtain ⟨v, h1, e⟩ := e
  replace e := asSl_el e
  obtain ⟨id, off, len, sz, rfl, e⟩ := e
  replace e := br_t e
  obtain ⟨h2, e⟩ := e
  replace e := br_t e
  obtain ⟨h3, e⟩ := e
  have h2 : 0 < len := ble_le h2
  have h3 := beq_eq h3
  subst h3
  replace e := mcells_el hr e
  obtain ⟨cs, s1, h4, nx, e⟩ := e
  replace e := sliC_el e
  obtain ⟨l, h5, e⟩ := e
  refine out_of (fun call => ?_) (.inl (by rw [hop]; rfl)) nx e
  rw [opV_plain (by simp [NC, hop]) hro, hop]
  simp only [opM, ev_sound hs.sat q1 h1, lift_some_eq, pure_bind, convertA, q2, q3]
  rw [if_pos ⟨q4, q5, h2, by trivial⟩]
  simp [AM.bind, cellsAt, AM.get, h4, AM.lift, h5, AM.pure]

theorem ok_sla (x : SX) (m : Nat) (lo hi : Option SX) (s' : Nat) : HOK P A f (.sla x m lo hi s') := by
  intro r cl o R s K rg h n _ he hs hr e
  obtain ⟨t, x0, lo0, hi0, e', hop, q1, q2, q3, q4, q5, hro⟩ := slH_inv (getH he rfl (by simp))
  replace e : evC x R (fun x => optI lo R 0 fun l => optI hi R m fun m' => asPtr x fun id off => Bool.rec (motive := fun _ => RT) none (Bool.rec (motive := fun _ => RT) none (mcells id s fun cs s => Bool.rec (motive := fun _ => RT) none (forceN (Nat.add off (Nat.mul l s')) fun o => forceN (Nat.sub m' l) fun len => K (.sl id o len s') s) (Nat.ble (Nat.add off (Nat.mul m s')) (lenN cs))) (Nat.ble m' m)) (Nat.ble l m')) = some r := e
  replace e := evC_el e
  obtain ⟨v, h1, e⟩ := e
  replace e := optI_el e
  obtain ⟨l, h2, e⟩ := e
  replace e := optI_el e
  obtain ⟨m', h3, e⟩ := e
  replace e := asPtr_el e
  obtain ⟨id, off, rfl, e⟩ := e
  replace e := br_t e
  obtain ⟨h4, e⟩ := e
  replace e := br_t e
  obtain ⟨h5, e⟩ := e
  replace e := mcells_el hr e
  obtain ⟨cs, s1, h6, nx, e⟩ := e
  replace e := br_t e
  obtain ⟨h7, e⟩ := e
  rw [forceN_eq, forceN_eq] at e
  have h7 : off + m * s' ≤ cs.length := by have := ble_le h7; rw [lenN_eq] at this; exact this
  obtain ⟨a, b, b1, b2, b3⟩ := optI_bounds hs q4 q5 h2 h3 ⟨ble_le h4, ble_le h5⟩
  refine out_of (fun call => ?_) (.inl (by rw [hop]; rfl)) nx e
  rw [opV_plain (by simp [NC, hop]) hro, hop]
  simp only [opM, ev_sound hs.sat q3 h1, b1, b2, lift_some_eq, pure_bind, sliceA, q1]
  simp [AM.bind, AM.get, h6, q2, b3, h7, AM.pure]

/- appends -/
def srcM (P : Program) (z : List AV) (s' : Nat) (u : TypeId) (y : AV) : AM (List AV × Nat) := match P.underlying u, y with
  | some (.int _), .int _ k => if 0 ≤ k ∧ k ≤ 2 ^ 30 then AM.pure (zerosA z (k.toNat * s'), k.toNat) else AM.fail
  | some (.slice _), y => srcA s' y
  | some .string, .str b => srcA s' (.str b)
  | _, _ => AM.fail
theorem app_opM {op : Op} {rg : Nat → AV} {s' b : Nat} {x0 y0 : Operand} {t u : TypeId} {args : Array Operand} {ts : Array TypeId} {e' : TypeId} {zz vx vy : AV} {src : AM (List AV × Nat)} (hop : op = .call { callee := .builtin .append, args := args, argTypes := ts }) (q1 : args.toList = [x0, y0]) (q2 : ts.toList = [t, u])
    (hx : evalA A rg x0 = some vx) (hy : evalA A rg y0 = some vy) (w1 : elemOfSlice P t = some e') (w2 : szOf P e' = some s') (w3 : bytesOf P e' = some b) (w4 : zeroOf P e' = some zz) (w5 : 0 < s') (w6 : zz.cells.length = s') (w7 : zz.cells.all AV.one = true)
    (hsrc : srcM P zz.cells s' u vy = src) : opM P (evalA A rg) op = AM.bind src fun p => appR s' b vx p := by
  subst hop
  simp only [opM, q1, q2, evs, hx, hy, Option.map_some, lift_some_eq, pure_bind, builtinA, appendA, w1, w2, w3, w4]
  rw [if_pos ⟨w5, w6, w7⟩, ← hsrc]
  rfl
theorem am_bind {α β : Type} {m : AM α} {g : α → AM β} {h h1 h2 : Heap} {n n1 n2 : Nat} {a : α} {b : β} {l1 l2 : Log} (e1 : m h n = some (a, h1, n1, l1)) (e2 : g a h1 n1 = some (b, h2, n2, l2)) : AM.bind m g h n = some (b, h2, n2, (l1.1 ++ l2.1, l1.2 ++ l2.2)) := bind_run e1 e2

/- the run of an append, for both kinds -/
def AppOk (P : Program) (A : Ann) (o : Oper) (hk : HK) : Prop := ∀ (r : AV) cl R s K rg h n, Regs R rg → Rel s h n → hk cl R s K = some r → ∃ v h' n' lg s1, opM P (evalA A rg) o.op h n = some (v, h', n', lg) ∧ Nx s h n lg s1 h' n' ∧ K v s1 = some r

theorem app_plain {o : Oper} {hk : HK} {cl : CL} {R : RG} {s : HS} {K : AV → HS → RT} {rg : Nat → AV} {h : Heap} {n : Nat} (ha : AppOk P A o hk) (hb : isBox o.op = false) (hnc : NC o.op) (hro : roAt A f o.dst = false) (hs : Regs R rg) (hr : Rel s h n) (e : hk cl R s K = some r) : HOut P A f o rg s h n K r := by
  obtain ⟨v, h', n', lg, s1, h1, nx, e⟩ := ha _ _ _ _ _ _ _ _ hs hr e
  refine out_of (fun call => ?_) (.inl hb) nx e
  rw [opV_plain hnc hro]
  exact h1
theorem app_tree {o : Oper} {hk : HK} {cl : CL} {R : RG} {s : HS} {K : AV → HS → RT} {rg : Nat → AV} {h : Heap} {n : Nat} (ha : AppOk P A o hk) (hb : isBox o.op = false) (hnc : NC o.op) (hro : roAt A f o.dst = true) (hs : Regs R rg) (hr : Rel s h n) (e : hTree hk cl R s K = some r) : HOut P A f o rg s h n K r := by
  obtain ⟨v, h', n', lg, s1, h1, nx, e⟩ := ha _ _ _ _ _ _ _ _ hs hr e
  replace e := frz_el nx.rel e
  obtain ⟨w, h2, l2, s2, h3, nx2, e⟩ := e
  obtain ⟨l3, h4, nx3⟩ := shut_run hr h1 nx h3 nx2
  refine out_of (fun call => ?_) (.inl hb) nx3 e
  rw [opV_shut hnc hro]
  exact h4

theorem app_ok {o : Oper} {s' b : Nat} {x y : SX} {x0 y0 : Operand} {t u : TypeId} {args : Array Operand} {ts : Array TypeId} {e' : TypeId} {zz : AV} (hop : o.op = .call { callee := .builtin .append, args := args, argTypes := ts }) (q1 : args.toList = [x0, y0]) (q2 : ts.toList = [t, u]) (q3 : slX A x0 = some x) (q4 : slX A y0 = some y)
    (w1 : elemOfSlice P t = some e') (w2 : szOf P e' = some s') (w3 : bytesOf P e' = some b) (w4 : zeroOf P e' = some zz) (w5 : 0 < s') (w6 : zz.cells.length = s') (w7 : zz.cells.all AV.one = true) (hu : ∃ q, P.underlying u = some (.slice q)) : AppOk P A o (hApp s' b (evC x) (evC y)) := by
  intro r cl R s K rg h n hs hr e
  replace e : evC x R (fun x => evC y R fun y => srcC y s' s fun new m s => appE s' b x new m s K) = some r := e
  replace e := evC_el e
  obtain ⟨vx, h1, e⟩ := e
  replace e := evC_el e
  obtain ⟨vy, h2, e⟩ := e
  replace e := src_el hr e
  obtain ⟨l, m, lg1, s1, h3, nx1, e⟩ := e
  replace e := appE_el nx1.rel e
  obtain ⟨v, h', n', lg2, s2, h4, nx2, e⟩ := e
  obtain ⟨q, hq⟩ := hu
  refine ⟨v, h', n', _, s2, ?_, nx1.trans nx2, e⟩
  rw [app_opM (src := srcA s' vy) hop q1 q2 (ev_sound hs.sat q3 h1) (ev_sound hs.sat q4 h2) w1 w2 w3 w4 w5 w6 w7 (by unfold srcM; rw [hq])]
  exact am_bind h3 h4
theorem aps_ok {o : Oper} {s' b : Nat} {x y : SX} {x0 y0 : Operand} {t u : TypeId} {args : Array Operand} {ts : Array TypeId} {e' : TypeId} {zz : AV} (hop : o.op = .call { callee := .builtin .append, args := args, argTypes := ts }) (q1 : args.toList = [x0, y0]) (q2 : ts.toList = [t, u]) (q3 : slX A x0 = some x) (q4 : slX A y0 = some y)
    (w1 : elemOfSlice P t = some e') (w2 : szOf P e' = some s') (w3 : bytesOf P e' = some b) (w4 : zeroOf P e' = some zz) (w5 : 0 < s') (w6 : zz.cells.length = s') (w7 : zz.cells.all AV.one = true) (hu : P.underlying u = some .string) : AppOk P A o (hAps s' b (evC x) (evC y)) := by
  intro r cl R s K rg h n hs hr e
  replace e : evC x R (fun x => evC y R fun y => asStr y fun t => bytesC t fun new => forceN (lenN t) fun m => appE s' b x new m s K) = some r := e
  replace e := evC_el e
  obtain ⟨vx, h1, e⟩ := e
  replace e := evC_el e
  obtain ⟨vy, h2, e⟩ := e
  replace e := asStr_el e
  obtain ⟨tx, rfl, e⟩ := e
  rw [bytesC_eq, forceN_eq, lenN_eq] at e
  replace e := appE_el hr e
  obtain ⟨v, h', n', lg2, s2, h4, nx2, e⟩ := e
  refine ⟨v, h', n', _, s2, ?_, nx2, e⟩
  rw [app_opM (src := srcA s' (.str tx)) hop q1 q2 (ev_sound hs.sat q3 h1) (ev_sound hs.sat q4 h2) w1 w2 w3 w4 w5 w6 w7 (by unfold srcM; rw [hu])]
  simpa using am_bind (m := srcA s' (.str tx)) (h := h) (n := n) rfl h4
theorem ok_app (s' b : Nat) (x y : SX) : HOK P A f (.app s' b x y) := by
  intro r cl o R s K rg h n _ he hs hr e
  obtain ⟨x0, y0, t, u, args, ts, e', zz, hop, q1, q2, q3, q4, w1, w2, w3, w4, w5, w6, w7, hu, hro⟩ := slH_inv (getH he rfl (by simp))
  exact app_plain (cl := cl) (app_ok hop q1 q2 q3 q4 w1 w2 w3 w4 w5 w6 w7 hu) (by rw [hop]; rfl) (by simp [NC, hop]) hro hs hr e
theorem ok_apps (s' b : Nat) (x y : SX) : HOK P A f (.apps s' b x y) := by
  intro r cl o R s K rg h n _ he hs hr e
  obtain ⟨x0, y0, t, u, args, ts, e', zz, hop, q1, q2, q3, q4, w1, w2, w3, w4, w5, w6, w7, hu, hro⟩ := slH_inv (getH he rfl (by simp))
  exact app_plain (cl := cl) (aps_ok hop q1 q2 q3 q4 w1 w2 w3 w4 w5 w6 w7 hu) (by rw [hop]; rfl) (by simp [NC, hop]) hro hs hr e
theorem ok_appT (s' b : Nat) (x y : SX) : HOK P A f (.appT s' b x y) := by
  intro r cl o R s K rg h n _ he hs hr e
  obtain ⟨x0, y0, t, u, args, ts, e', zz, hop, q1, q2, q3, q4, w1, w2, w3, w4, w5, w6, w7, hu, hro⟩ := slH_inv (getH he rfl (by simp))
  exact app_tree (cl := cl) (app_ok hop q1 q2 q3 q4 w1 w2 w3 w4 w5 w6 w7 hu) (by rw [hop]; rfl) (by simp [NC, hop]) hro hs hr e
theorem ok_appsT (s' b : Nat) (x y : SX) : HOK P A f (.appsT s' b x y) := by
  intro r cl o R s K rg h n _ he hs hr e
  obtain ⟨x0, y0, t, u, args, ts, e', zz, hop, q1, q2, q3, q4, w1, w2, w3, w4, w5, w6, w7, hu, hro⟩ := slH_inv (getH he rfl (by simp))
  exact app_tree (cl := cl) (aps_ok hop q1 q2 q3 q4 w1 w2 w3 w4 w5 w6 w7 hu) (by rw [hop]; rfl) (by simp [NC, hop]) hro hs hr e
theorem ok_appz (s' b : Nat) (z : List AV) (x y : SX) : HOK P A f (.appz s' b z x y) := by
  intro r cl o R s K rg h n _ he hs hr e
  obtain ⟨x0, y0, t, u, args, ts, e', zz, hop, q1, q2, q3, q4, w1, w2, w3, w4, rfl, w5, w6, w7, ⟨q, hu⟩, hro⟩ := slH_inv (getH he rfl (by simp))
  replace e : evC x R (fun x => evC y R fun y => asInt y fun _ n => natOf n fun n => Bool.rec (motive := fun _ => RT) none (repC zz.cells n [] fun new => appE s' b x new n s K) (Nat.ble n 1073741824)) = some r := e
  replace e := evC_el e
  obtain ⟨vx, h1, e⟩ := e
  replace e := evC_el e
  obtain ⟨vy, h2, e⟩ := e
  replace e := asInt_el e
  obtain ⟨k, i, rfl, e⟩ := e
  replace e := natOf_el e
  obtain ⟨i, rfl, e⟩ := e
  replace e := br_t e
  obtain ⟨h3, e⟩ := e
  have h3 := ble_le h3
  rw [rep_eq, List.append_nil] at e
  have hz : zerosA zz.cells (i * s') = (List.replicate i zz.cells).flatten := by rw [← w6]; exact zeros_eq _ _
  replace e := appE_el hr e
  obtain ⟨v, h', n', lg2, s2, h4, nx2, e⟩ := e
  refine out_of (fun call => ?_) (.inl (by rw [hop]; rfl)) nx2 e
  rw [opV_plain (by simp [NC, hop]) hro, app_opM (src := AM.pure ((List.replicate i zz.cells).flatten, i)) hop q1 q2 (ev_sound hs.sat q3 h1) (ev_sound hs.sat q4 h2) w1 w2 w3 w4 w5 w6 w7 (by
    unfold srcM
    rw [hu]
    simp only []
    rw [if_pos ⟨by omega, by omega⟩, Int.toNat_natCast, hz]), pure_bind]
  exact h4
theorem ok_cpy (s' : Nat) (x y : SX) : HOK P A f (.cpy s' x y) := by
  intro r cl o R s K rg h n _ he hs hr e
  obtain ⟨x0, y0, t, tr, args, ts, e', hop, q1, q2, q3, q4, w1, w2, hro⟩ := slH_inv (getH he rfl (by simp))
  replace e : evC x R (fun x => evC y R fun y => asSl x fun id off len sz => Bool.rec (motive := fun _ => RT) none (Bool.rec (motive := fun _ => RT) none (srcC y s' s fun new n s => Bool.rec (motive := fun _ => RT) none (minC n len fun m => sliC new 0 (Nat.mul m s') fun vs => stoC id off vs s fun _ s => K (.int .i64 (.ofNat m)) s) (Nat.beq (lenN new) (Nat.mul n s'))) (Nat.ble 1 s')) (Nat.beq sz s')) = some r := e
  replace e := evC_el e
  obtain ⟨vx, h1, e⟩ := e
  replace e := evC_el e
  obtain ⟨vy, h2, e⟩ := e
  replace e := asSl_el e
  obtain ⟨id, off, len, sz, rfl, e⟩ := e
  replace e := br_t e
  obtain ⟨h3, e⟩ := e
  replace e := br_t e
  obtain ⟨h4, e⟩ := e
  have h3 := beq_eq h3
  have h4 : 0 < s' := ble_le h4
  replace e := src_el hr e
  obtain ⟨l, m, lg1, s1, h5, nx1, e⟩ := e
  replace e := br_t e
  obtain ⟨h6, e⟩ := e
  have h6 : l.length = m * s' := by have := beq_eq h6; rw [lenN_eq] at this; exact this
  rw [minC_eq] at e
  replace e := sliC_el e
  obtain ⟨vs, h7, e⟩ := e
  replace e := sto_el nx1.rel e
  obtain ⟨h', s2, h8, nx2, e⟩ := e
  have h9 : l.take (min m len * s') = vs := by
    unfold sliceL at h7
    split at h7
    · simpa using h7
    · cases h7
  refine out_of (fun call => ?_) (.inl (by rw [hop]; rfl)) (nx1.trans nx2) e
  rw [opV_plain (by simp [NC, hop]) hro, hop]
  simp only [opM, q1, q2, evs, ev_sound hs.sat q3 h1, ev_sound hs.sat q4 h2, Option.map_some, lift_some_eq, pure_bind, builtinA, copyA, w1, w2]
  rw [if_pos ⟨h3, h4⟩]
  refine am_bind (l2 := ([id], [id])) h5 ?_
  simp only []
  rw [if_pos h6, h9]
  exact am_bind (g := fun _ => AM.pure (AV.int .i64 ((min m len : Nat) : Int))) (l2 := ([], [])) h8 rfl

theorem ok_clr (s' : Nat) (z : List AV) (x : SX) : HOK P A f (.clr s' z x) := by
  intro r cl o R s K rg h n _ he hs hr e
  obtain ⟨x0, t, tr, args, ts, e', zz, hop, q1, q2, q3, w1, w2, w3, rfl, w4, w5, hro⟩ := slH_inv (getH he rfl (by simp))
  replace e : evC x R (fun x => asSl x fun id off len sz => Bool.rec (motive := fun _ => RT) none (Nat.rec (motive := fun _ => RT) (K .undef s) (fun _ _ => repC zz.cells len [] fun new => stoC id off new s fun _ s => K .undef s) len) (Nat.beq s' sz)) = some r := e
  replace e := evC_el e
  obtain ⟨vx, h1, e⟩ := e
  replace e := asSl_el e
  obtain ⟨id, off, len, sz, rfl, e⟩ := e
  replace e := br_t e
  obtain ⟨h3, e⟩ := e
  have h3 := beq_eq h3
  cases len with
  | zero =>
    replace e : K .undef s = some r := e
    refine out_of (fun call => ?_) (.inl (by rw [hop]; rfl)) (Nx.refl hr) e
    rw [opV_plain (by simp [NC, hop]) hro, hop]
    simp only [opM, q1, q2, evs, ev_sound hs.sat q3 h1, Option.map_some, lift_some_eq, pure_bind, builtinA, clearA, w1, w2, w3]
    rw [if_pos ⟨h3, w4, w5⟩]
    rfl
  | succ m =>
    replace e : repC zz.cells (m + 1) [] (fun new => stoC id off new s fun _ s => K .undef s) = some r := e
    rw [rep_eq, List.append_nil] at e
    have hz : zerosA zz.cells ((m + 1) * s') = (List.replicate (m + 1) zz.cells).flatten := by rw [← w5]; exact zeros_eq _ _
    replace e := sto_el hr e
    obtain ⟨h', s2, h8, nx2, e⟩ := e
    refine out_of (fun call => ?_) (.inl (by rw [hop]; rfl)) nx2 e
    rw [opV_plain (by simp [NC, hop]) hro, hop]
    simp only [opM, q1, q2, evs, ev_sound hs.sat q3 h1, Option.map_some, lift_some_eq, pure_bind, builtinA, clearA, w1, w2, w3]
    rw [if_pos ⟨h3, w4, w5⟩, if_neg (by omega), hz]
    exact am_bind (g := fun _ => AM.pure AV.undef) (l2 := ([], [])) h8 rfl

/- maps -/
theorem keyC_el {k a : AV} {c : Bool → RT} (h : keyC k a c = some r) : ∃ b, keyEq k a = some b ∧ c b = some r := by
  cases k with
  | int i x =>
    replace h : asInt a (fun k' y => Bool.rec (motive := fun _ => RT) none (c (eqI x y)) (Nat.beq (kI i) (kI k'))) = some r := h
    replace h := asInt_el h
    obtain ⟨k', y, rfl, h⟩ := h
    replace h := br_t h
    obtain ⟨h1, h⟩ := h
    have h1 := kI_inj (beq_eq h1)
    subst h1
    rw [eqI_eq] at h
    exact ⟨_, by simp only [keyEq, if_true]; rfl, h⟩
  | str s =>
    replace h : asStr a (fun t => c (eqL s t)) = some r := h
    replace h := asStr_el h
    obtain ⟨t, rfl, h⟩ := h
    rw [eqL_eq] at h
    refine ⟨_, ?_, h⟩
    simp only [keyEq, str_beq]
  | bool x =>
    replace h : asBool a (fun y => c (eqB x y)) = some r := h
    replace h := asBool_el h
    obtain ⟨t, rfl, h⟩ := h
    rw [eqB_eq] at h
    exact ⟨_, rfl, h⟩
  | _ => exact (nn h).elim
theorem keyK_el {kt : TypeId} {q : MK} {k : AV} {c : RT} (hq : mkOf P kt = some q) (h : keyK k q c = some r) : keyKind P kt k = true ∧ c = some r := by
  unfold mkOf at hq
  unfold keyKind
  cases k with
  | int i x =>
    cases q with
    | int j =>
      replace h : Bool.rec (motive := fun _ => RT) none c (Nat.beq (kI i) (kI j)) = some r := h
      replace h := br_t h
      obtain ⟨h1, h⟩ := h
      have h1 := kI_inj (beq_eq h1)
      subst h1
      split at hq <;> simp only [Option.some.injEq, MK.int.injEq, reduceCtorEq] at hq
      rename_i e
      subst hq
      rw [e]
      exact ⟨by simp, h⟩
    | str => exact (nn h).elim
    | bool => exact (nn h).elim
  | str s =>
    cases q with
    | str =>
      split at hq <;> simp only [Option.some.injEq, reduceCtorEq] at hq
      rename_i e
      rw [e]
      exact ⟨rfl, h⟩
    | int j => exact (nn h).elim
    | bool => exact (nn h).elim
  | bool x =>
    cases q with
    | bool =>
      split at hq <;> simp only [Option.some.injEq, reduceCtorEq] at hq
      rename_i e
      rw [e]
      exact ⟨rfl, h⟩
    | int j => exact (nn h).elim
    | str => exact (nn h).elim
  | _ => exact (nn h).elim
theorem findC_el {k : AV} {g : Nat → AV → RT} {m : RT} : ∀ {es : List (AV × AV)} {i : Nat}, findC k g m es i = some r → (findA k es i = some none ∧ m = some r) ∨ ∃ j v, findA k es i = some (some (j, v)) ∧ g j v = some r
  | [], i, h => .inl ⟨rfl, h⟩
  | (a, v) :: es, i, h => by
    replace h : keyC k a (fun b => Bool.rec (motive := fun _ => RT) (findC k g m es (Nat.succ i)) (g i v) b) = some r := h
    replace h := keyC_el h
    obtain ⟨b, h1, h⟩ := h
    cases b with
    | true => exact .inr ⟨i, v, by simp only [findA, h1], h⟩
    | false =>
      rcases findC_el (es := es) (i := i + 1) h with ⟨h2, h3⟩ | ⟨j, w, h2, h3⟩
      · exact .inl ⟨by simp only [findA, h1]; exact h2, h3⟩
      · exact .inr ⟨j, w, by simp only [findA, h1]; exact h2, h3⟩
theorem setM_eq : ∀ (l : List (AV × AV)) (i : Nat) (v : AV × AV) (k : List (AV × AV) → RT), setM l i v k = k (l.set i v)
  | [], i, v, k => rfl
  | a :: l, 0, v, k => rfl
  | a :: l, i + 1, v, k => by
    show setM l i v (fun r => k (a :: r)) = _
    rw [setM_eq l i v]
    rfl
theorem addM_eq (v : AV × AV) : ∀ (l : List (AV × AV)) (k : List (AV × AV) → RT), addM v l k = k (l ++ [v])
  | [], k => rfl
  | a :: l, k => by
    show addM v l (fun r => k (a :: r)) = _
    rw [addM_eq v l]
    rfl
theorem ok_mkm : HOK P A f .mkm := by
  intro r cl o R s K rg h n _ he hs hr e
  obtain ⟨t, kt, et, hop, q1, hro⟩ := slH_inv (getH he rfl (by simp))
  replace e : mnew (.map []) s (fun id s => K (.map id) s) = some r := e
  replace e := mnew_el hr e
  obtain ⟨s1, nx, e⟩ := e
  refine out_of (fun call => ?_) (.inl (by rw [hop]; rfl)) nx e
  rw [opV_plain (by simp [NC, hop]) hro, hop]
  simp only [opM, q1]
  rfl
def lkA (P : Program) (et : TypeId) (ok : Bool) (oo : Option (Option (Nat × AV))) : AM AV := match oo, zeroOf P et with
  | some (some (_, v)), some _ => AM.pure (if ok then .tup [v, .bool true] else v)
  | some none, some z => AM.pure (if ok then .tup [z, .bool false] else z)
  | _, _ => AM.fail
theorem ok_lku (q : MK) (z : AV) (x y : SX) (ok : Bool) : HOK P A f (.lku q z x y ok) := by
  intro r cl o R s K rg h n _ he hs hr e
  obtain ⟨t, x0, k0, kt, et, hop, q0, q1, q2, q3, q4, hro⟩ := slH_inv (getH he rfl (by simp))
  replace e : evC x R (fun m => evC y R fun k => keyK k q (mapE m s fun es s => findC k (fun _ v => Bool.rec (motive := fun _ => RT) (K v s) (K (.tup [v, .bool true]) s) ok) (Bool.rec (motive := fun _ => RT) (K z s) (K (.tup [z, .bool false]) s) ok) es 0)) = some r := e
  replace e := evC_el e
  obtain ⟨m, h1, e⟩ := e
  replace e := evC_el e
  obtain ⟨k, h2, e⟩ := e
  replace e := keyK_el q0 e
  obtain ⟨h3, e⟩ := e
  have fin : ∀ {es : List (AV × AV)} {s1 : HS} {lg : Log}, Nx s h n lg s1 h n → (∀ g : List (AV × AV) → AM AV, ∀ w, g es h n = some (w, h, n, ([], [])) → AM.bind (match m with
          | .nil .map => AM.pure []
          | .map id => AM.bind (AM.get id) fun o => match o with
            | .map es => AM.pure es
            | _ => AM.fail
          | _ => AM.fail) g h n = some (w, h, n, lg)) →
        findC k (fun _ v => Bool.rec (motive := fun _ => RT) (K v s1) (K (.tup [v, .bool true]) s1) ok) (Bool.rec (motive := fun _ => RT) (K z s1) (K (.tup [z, .bool false]) s1) ok) es 0 = some r → HOut P A f o rg s h n K r := by
    intro es s1 lg nx hm e
    have hv : ∀ call w, lkA P et ok (findA k es 0) h n = some (w, h, n, ([], [])) → opV call P A f o rg h n = some (w, h, n, lg) := by
      intro call w hw
      rw [opV_plain (by simp [NC, hop]) hro, hop]
      simp only [opM, ev_sound hs.sat q3 h1, ev_sound hs.sat q4 h2, lift_some_eq, pure_bind, lookupA, q1, h3, if_true]
      exact hm _ w hw
    have hb : isBox o.op = false := by rw [hop]; rfl
    rcases findC_el e with ⟨h4, e⟩ | ⟨j, v, h4, e⟩
    · cases ok with
      | true => exact out_of (fun call => hv call _ (by unfold lkA; rw [h4, q2]; rfl)) (.inl hb) nx e
      | false => exact out_of (fun call => hv call _ (by unfold lkA; rw [h4, q2]; rfl)) (.inl hb) nx e
    · cases ok with
      | true => exact out_of (fun call => hv call _ (by unfold lkA; rw [h4, q2]; rfl)) (.inl hb) nx e
      | false => exact out_of (fun call => hv call _ (by unfold lkA; rw [h4, q2]; rfl)) (.inl hb) nx e
  cases m with
  | nil kk =>
    cases kk with
    | map => exact fin (es := []) (Nx.refl hr) (fun g w hg => by simp only [pure_bind]; exact hg) e
    | _ => exact (nn e).elim
  | map id =>
    replace e : mget id s (fun o s => mapC o fun es => findC k (fun _ v => Bool.rec (motive := fun _ => RT) (K v s) (K (.tup [v, .bool true]) s) ok) (Bool.rec (motive := fun _ => RT) (K z s) (K (.tup [z, .bool false]) s) ok) es 0) = some r := e
    replace e := mget_el hr e
    obtain ⟨ob, s1, h5, nx, e⟩ := e
    cases ob with
    | cells _ => exact (nn e).elim
    | map es =>
      refine fin nx (fun g w hg => ?_) e
      have := am_bind (m := AM.bind (AM.get id) fun o => match o with
            | .map es => AM.pure es
            | _ => AM.fail) (g := g) (h := h) (n := n) (l1 := ([id], [])) (l2 := ([], [])) (by simp [AM.bind, AM.get, h5, AM.pure]) hg
      simpa using this
  | _ => exact (nn e).elim
theorem ok_mup (q : MK) (x y w : SX) : HOK P A f (.mup q x y w) := by
  intro r cl o R s K rg h n _ he hs hr e
  obtain ⟨t, x0, k0, v0, kt, et, q0, hop, q1, q3, q4, q5, hro⟩ := slH_inv (getH he rfl (by simp))
  replace e : evC x R (fun m => evC y R fun k => evC w R fun v => asMap m fun id => keyK k q (mget id s fun o s => mapC o fun es => findC k (fun i _ => setM es i (k, v) fun es => mset id (.map es) s fun _ s => K .undef s) (addM (k, v) es fun es => mset id (.map es) s fun _ s => K .undef s) es 0)) = some r := e
  replace e := evC_el e
  obtain ⟨m, h1, e⟩ := e
  replace e := evC_el e
  obtain ⟨k, h2, e⟩ := e
  replace e := evC_el e
  obtain ⟨v, h2', e⟩ := e
  cases m with
  | map id =>
    replace e : keyK k q (mget id s fun o s => mapC o fun es => findC k (fun i _ => setM es i (k, v) fun es => mset id (.map es) s fun _ s => K .undef s) (addM (k, v) es fun es => mset id (.map es) s fun _ s => K .undef s) es 0) = some r := e
    replace e := keyK_el q0 e
    obtain ⟨h3, e⟩ := e
    replace e := mget_el hr e
    obtain ⟨ob, s1, h5, nx, e⟩ := e
    cases ob with
    | cells _ => exact (nn e).elim
    | map es =>
      replace e : findC k (fun i _ => setM es i (k, v) fun es => mset id (.map es) s1 fun _ s => K .undef s) (addM (k, v) es fun es => mset id (.map es) s1 fun _ s => K .undef s) es 0 = some r := e
      have hb : isBox o.op = false := by rcases hop with hop | hop <;> rw [hop] <;> rfl
      have hv : ∀ call, opV call P A f o rg = mapUpdateA P t (.map id) k v := by
        intro call
        rw [opV_plain (by rcases hop with hop | hop <;> simp [NC, hop]) hro]
        rcases hop with hop | hop <;> rw [hop] <;> simp only [opM, ev_sound hs.sat q3 h1, ev_sound hs.sat q4 h2, ev_sound hs.sat q5 h2', lift_some_eq, pure_bind]
      rcases findC_el e with ⟨h4, e⟩ | ⟨j, u, h4, e⟩
      · rw [addM_eq] at e
        replace e := mset_el nx.rel e
        obtain ⟨s2, _, nx2, e⟩ := e
        refine out_of (lg := ([id], [id])) (fun call => ?_) (.inl hb) (by simpa using nx.trans nx2) e
        rw [hv]
        simp [mapUpdateA, q1, h3, AM.bind, AM.get, h5, h4, AM.set, AM.pure]
      · rw [setM_eq] at e
        replace e := mset_el nx.rel e
        obtain ⟨s2, _, nx2, e⟩ := e
        refine out_of (lg := ([id], [id])) (fun call => ?_) (.inl hb) (by simpa using nx.trans nx2) e
        rw [hv]
        simp [mapUpdateA, q1, h3, AM.bind, AM.get, h5, h4, AM.set, AM.pure]
  | _ => exact (nn e).elim

theorem kC_ok : ∀ k : SK, HOK P A f k
  | .mv x => ok_plain rfl (pl_mv x)
  | .pick c a b => ok_plain rfl (pl_pick c a b)
  | .bin op x y => ok_plain rfl (pl_bin op x y)
  | .beq n x y => ok_plain rfl (pl_beq n x y)
  | .isnil n k x => ok_plain rfl (pl_nil n k x)
  | .un _o _x => ok_plain rfl (pl_gen _)
  | .fa x o => ok_plain rfl (pl_fa x o)
  | .ia x i n s => ok_plain rfl (pl_ia x i n s)
  | .ld x m => ok_ld x m
  | .fld x o m => ok_plain rfl (pl_fld x o m)
  | .ext x i => ok_plain rfl (pl_ext x i)
  | .len x n => ok_plain rfl (pl_len x n)
  | .lens x => ok_plain rfl (pl_lens x)
  | .cv k x => ok_plain rfl (pl_cv k x)
  | .ss _x => ok_plain rfl (pl_gen _)
  | .chk x => ok_plain rfl (pl_chk x)
  | .bld z ps => ok_plain rfl (pl_bld z ps)
  | .mkf _g _a _b => ok_plain rfl (pl_gen _)
  | .slt x lo hi s => ok_plain rfl (pl_slt x lo hi s)
  | .sls _x _lo _hi => ok_plain rfl (pl_gen _)
  | .b2s x => ok_b2s x
  | .box x => ok_box x
  | .bsl z s n ps => ok_bsl z s n ps
  | .call x a => ok_call x a
  | .mnx _m _l => ok_plain rfl (pl_gen _)
  | .raw => fun _ _ _ _ _ _ _ _ _ _ _ _ _ e => (nn e).elim
  | .hbox e x => ok_hbox e x
  | .alc e z => ok_alc e z
  | .st x y m => ok_st x y m
  | .app s b x y => ok_app s b x y
  | .apps s b x y => ok_apps s b x y
  | .appT s b x y => ok_appT s b x y
  | .appsT s b x y => ok_appsT s b x y
  | .appz s b z x y => ok_appz s b z x y
  | .sla x n lo hi s => ok_sla x n lo hi s
  | .cvs x => ok_cvs x
  | .ixs x i => ok_plain rfl (pl_ixs x i)
  | .ixa _x _i _n _s _g => ok_plain rfl (pl_gen _)
  | .cpy s x y => ok_cpy s x y
  | .hbs z s n ps => ok_hbs z s n ps
  | .mks ro z s b x y => ok_mks ro z s b x y
  | .s2b ro x => ok_s2b ro x
  | .mkm => ok_mkm
  | .lku q z x y ok => ok_lku q z x y ok
  | .mup q x y v => ok_mup q x y v
  | .clr s z x => ok_clr s z x
  | .eqs _n _o _x _y => ok_plain rfl (pl_gen _)
  | .mif t x => ok_plain rfl (pl_mif t x)
  | .tas t ok x => ok_plain rfl (pl_tas t ok x)
  | .inv l x a => ok_inv l x a
end
end Go.Abs
