/- The quick evaluator is sound: operations over the heap. -/
import Derived.Test.YtpkplkccncfkgaaGreatAbsEHc
namespace Go.Abs

section
variable {P : Program} {A : Ann} {f : Nat} {r : AV}

theorem ei_inv {P : Program} {A : Ann} {ro : Bool} {op : Op} {k : SK} (hk : slK P A ro op = some k) : match k with
    | .box x => ∃ t x0, op = .box t x0 ∧ slX A x0 = some x ∧ ro = true
    | .bsl z s n ps => ∃ t ps0 e zz, op = .buildSlice t n ps0 ∧ elemOfSlice P t = some e ∧ szOf P e = some s ∧ zeroOf P e = some zz ∧ (n * s ≤ 2 ^ 20 ∧ 0 < s ∧ zz.cells.length = s ∧ zz.cells.all AV.one) ∧ slParts A (fun i => some (i * s, s)) ps0.toList = some ps ∧ z = zerosA zz.cells (n * s) ∧ ro = true
    | .call x args => ∃ x0 a0 ts, op = .call { callee := .value x0, args := a0, argTypes := ts } ∧ slX A x0 = some x ∧ slXs A a0.toList = some args
    | .inv l x args => ∃ x0 m a0 ts, op = .call { callee := .invoke x0 m, args := a0, argTypes := ts } ∧ slX A x0 = some x ∧ slXs A a0.toList = some args ∧ l = invT P m
    | .b2s x => ∃ s d x0 e, op = .convert s d x0 ∧ slX A x0 = some x ∧ P.underlying s = some (.slice e) ∧ P.underlying d = some .string ∧ isByteT P e = true ∧ ro = false
    | _ => ro = false ∧ isBox op = false ∧ NC op := by
  have omk : ∀ {α β : Type} {x : Option α} {g : α → β} {b : β}, x.map g = some b → ∃ a, x = some a ∧ g a = b := fun h => omap h
  cases op with
  | box t x0 =>
    simp only [slK] at hk
    split at hk
    · rename_i hro
      obtain ⟨y, hy, rfl⟩ := omap hk
      exact ⟨t, x0, rfl, hy, hro⟩
    · cases hk
  | buildSlice t n ps0 =>
    simp only [slK] at hk
    split at hk
    · rename_i hro
      split at hk
      · rename_i e he
        split at hk
        · rename_i s z q1 q2
          split at hk
          · rename_i hc
            obtain ⟨l, hl, rfl⟩ := omap hk
            exact ⟨t, ps0, e, z, rfl, he, q1, q2, hc, hl, rfl, hro⟩
          · cases hk
        · cases hk
      · cases hk
    · cases hk
  | convert s d x0 =>
    simp only [slK] at hk
    split at hk
    · cases hk
    · rename_i hro
      have hro : ro = false := by simpa using hro
      split at hk
      · simp only [Option.some.injEq] at hk; subst hk; exact ⟨hro, rfl, by simp [NC]⟩
      · simp only [Option.some.injEq] at hk; subst hk; exact ⟨hro, rfl, by simp [NC]⟩
      · rename_i x e q1 q2 q3
        split at hk
        · rename_i q4
          simp only [Option.some.injEq] at hk
          subst hk
          exact ⟨s, d, x0, e, rfl, q1, q2, q3, q4, hro⟩
        · cases hk
      · cases hk
  | call c =>
    obtain ⟨callee, args, ts⟩ := c
    cases callee with
    | value x0 =>
      simp only [slK] at hk
      split at hk
      · rename_i x a q1 q2
        simp only [Option.some.injEq] at hk
        subst hk
        exact ⟨x0, args, ts, rfl, q1, q2⟩
      · cases hk
    | invoke x0 m =>
      simp only [slK] at hk
      split at hk
      · rename_i x a q1 q2
        simp only [Option.some.injEq] at hk
        subst hk
        exact ⟨x0, m, args, ts, rfl, q1, q2, rfl⟩
      · cases hk
    | builtin b =>
      cases ro with
      | true => cases b <;> simp [slK] at hk
      | false => cases b <;> simp only [slK, Bool.false_eq_true, if_false] at hk <;> repeat' (first | (cases hk; done) | (simp only [Option.some.injEq] at hk; subst hk; exact ⟨rfl, rfl, by simp [NC]⟩) | (obtain ⟨_, _, rfl⟩ := omap hk; exact ⟨rfl, rfl, by simp [NC]⟩) | (split at hk))
  | slice t x lo hi mx =>
    cases ro with
    | true => cases mx <;> simp [slK] at hk
    | false => cases mx <;> simp only [slK, Bool.false_eq_true, if_false] at hk <;> repeat' (first | (cases hk; done) | (simp only [Option.some.injEq] at hk; subst hk; exact ⟨rfl, rfl, by simp [NC]⟩) | (obtain ⟨_, _, rfl⟩ := omap hk; exact ⟨rfl, rfl, by simp [NC]⟩) | (split at hk))
  | _ =>
    cases ro with
    | true => simp [slK] at hk
    | false => simp only [slK, Bool.false_eq_true, if_false] at hk <;> repeat' (first | (cases hk; done) | (simp only [Option.some.injEq] at hk; subst hk; exact ⟨rfl, rfl, by simp [NC]⟩) | (obtain ⟨_, _, rfl⟩ := omap hk; exact ⟨rfl, rfl, by simp [NC]⟩) | (split at hk))

/- what is pushed -/
def pushB (A : Ann) (f : Nat) (o : Oper) (v : AV) (s : HS) : HS := match o.dst with
  | some d => if isBox o.op && !A.esc f d then (match v with
    | .ptr id _ => { s with bx := id :: s.bx }
    | _ => s) else s
  | none => s

theorem push_no {o : Oper} {v : AV} {s : HS} (h : isBox o.op = false ∨ ∃ cs i, v = .tptr cs i) : pushB A f o v s = s := by
  unfold pushB
  split
  · split
    · rename_i hc
      rcases h with h | ⟨cs, i, rfl⟩
      · rw [h] at hc; cases hc
      · rfl
    · rfl
  · rfl

def HOut (P : Program) (A : Ann) (f : Nat) (o : Oper) (rg : Nat → AV) (s : HS) (h : Heap) (n : Nat) (K : AV → HS → RT) (r : AV) : Prop :=
  ∃ v h' n' lg s1, (∃ k0, ∀ k, k0 ≤ k → opV (callN P A k) P A f o rg h n = some (v, h', n', lg)) ∧ Nx s h n lg s1 h' n' ∧ K v (pushB A f o v s1) = some r

theorem opV_plain {call : Nat → List AV → AM AV} {o : Oper} {rg : Nat → AV} (hnc : NC o.op) (hro : roAt A f o.dst = false) : opV call P A f o rg = opM P (evalA A rg) o.op := by
  unfold opV
  split
  · rename_i h1
    exact absurd h1 (hnc.1 _ _ _)
  · rename_i h1
    exact absurd h1 (hnc.2 _ _ _ _)
  · rw [hro]; rfl
theorem opV_shut {call : Nat → List AV → AM AV} {o : Oper} {rg : Nat → AV} (hnc : NC o.op) (hro : roAt A f o.dst = true) : opV call P A f o rg = shut (opM P (evalA A rg) o.op) := by
  unfold opV
  split
  · rename_i h1
    exact absurd h1 (hnc.1 _ _ _)
  · rename_i h1
    exact absurd h1 (hnc.2 _ _ _ _)
  · rw [hro]; rfl

theorem out_of {o : Oper} {rg : Nat → AV} {s s1 : HS} {h h' : Heap} {n n' : Nat} {lg : Log} {K : AV → HS → RT} {v : AV} (hv : ∀ call, opV call P A f o rg h n = some (v, h', n', lg)) (hb : isBox o.op = false ∨ ∃ cs i, v = .tptr cs i) (nx : Nx s h n lg s1 h' n') (e : K v s1 = some r) :
    HOut P A f o rg s h n K r := ⟨v, h', n', lg, s1, ⟨0, fun k _ => hv _⟩, nx, by rw [push_no hb]; exact e⟩

/- what only reckons -/
theorem out_plain {o : Oper} {rg : Nat → AV} {R : RG} {s : HS} {h : Heap} {n : Nat} {K : AV → HS → RT} {v : AV} {k : SK} (hk : slK P A false o.op = some k) (hro : roAt A f o.dst = false) (hb : isBox o.op = false) (hnc : NC o.op)
    (hs : Regs R rg) (hr : Rel s h n) (hv : svB (R3 R) k = some v) (e : K v s = some r) : HOut P A f o rg s h n K r := by
  obtain ⟨p, h1, hp⟩ := svB_sound hv
  refine out_of (fun call => ?_) (.inl hb) (Nx.refl hr) e
  rw [opV_plain hnc hro, sv_pure hk hs.sat h1 hp]
  rfl

/- loads -/
theorem loadT_ptr {t : TypeId} {m : Option Nat} {h : Heap} {n id off : Nat} {cs : List AV} {v : AV} (hc : cellsN P t = some m) (hid : h id = some (.cells cs)) (hv : TakeP m cs off v) : loadT P t (.ptr id off) h n = some (v, h, n, ([id], [])) := by
  rcases cellsN_some hc with ⟨j, rfl, h1, h2⟩ | ⟨rfl, h1, j, h2⟩
  · obtain ⟨l, h3, rfl⟩ := hv
    simp [loadT, AM.bind, AM.lift, AM.pure, AM.get, h1, h2, cellsAt, hid, h3, shapeOf]
  · have hv : cs[off]? = some v := hv
    have hlt := (List.getElem?_eq_some_iff.1 hv).1
    have h3 : sliceL cs off 1 = some [v] := by
      unfold sliceL
      rw [if_pos (by omega)]
      congr 1
      rw [List.drop_eq_getElem_cons hlt, (List.getElem?_eq_some_iff.1 hv).2]
      rfl
    simp [loadT, AM.bind, AM.lift, AM.pure, AM.get, h1, h2, cellsAt, hid, h3, shapeOf]
theorem loadT_tptr {t : TypeId} {m : Option Nat} {h : Heap} {n off : Nat} {cs : List AV} {v : AV} (hc : cellsN P t = some m) (hv : TakeP m cs off v) : loadT P t (.tptr cs off) h n = some (v, h, n, ([], [])) := by
  rcases cellsN_some hc with ⟨j, rfl, h1, h2⟩ | ⟨rfl, h1, j, h2⟩
  · obtain ⟨l, h3, rfl⟩ := hv
    simp [loadT, AM.bind, AM.lift, AM.pure, h1, h2, cellsAt, h3, shapeOf]
  · have hv : cs[off]? = some v := hv
    have hlt := (List.getElem?_eq_some_iff.1 hv).1
    have h3 : sliceL cs off 1 = some [v] := by
      unfold sliceL
      rw [if_pos (by omega)]
      congr 1
      rw [List.drop_eq_getElem_cons hlt, (List.getElem?_eq_some_iff.1 hv).2]
      rfl
    simp [loadT, AM.bind, AM.lift, AM.pure, h1, h2, cellsAt, h3, shapeOf]
theorem ldA_el {t : TypeId} {m : Option Nat} {p : AV} {s : HS} {h : Heap} {n : Nat} {K : AV → HS → RT} (hc : cellsN P t = some m) (hr : Rel s h n) (e : ldA p (takeC m) s K = some r) : ∃ v lg s1, loadT P t p h n = some (v, h, n, lg) ∧ Nx s h n lg s1 h n ∧ K v s1 = some r := by
  cases p with
  | ptr id off =>
    replace e : mcells id s (fun cs s => takeC m cs off fun v => K v s) = some r := e
    obtain ⟨cs, s1, h1, nx, e⟩ := mcells_el hr e
    obtain ⟨v, e, hv⟩ := takeC_el e
    exact ⟨v, _, s1, loadT_ptr hc h1 hv, nx, e⟩
  | tptr cs off =>
    replace e : takeC m cs off (fun v => K v s) = some r := e
    obtain ⟨v, e, hv⟩ := takeC_el e
    exact ⟨v, _, s, loadT_tptr hc hv, Nx.refl hr, e⟩
  | _ => exact (nn e).elim

/- stores -/
theorem sto_el {id off : Nat} {vs : List AV} {s : HS} {h : Heap} {n : Nat} {K : Unit → HS → RT} (hr : Rel s h n) (e : stoC id off vs s K = some r) : ∃ h' s1, storeAtA (.ptr id off) vs h n = some ((), h', n, ([id], [id])) ∧ Nx s h n ([id], [id]) s1 h' n ∧ K () s1 = some r := by
  unfold stoC at e
  obtain ⟨cs, s1, h1, nx, e⟩ := mcells_el hr e
  obtain ⟨h2, e⟩ := br_t e
  rw [onesB_eq] at h2
  have key : ∃ cs', spliceL cs off vs = some cs' ∧ mset id (.cells cs') s1 K = some r := by
    cases vs with
    | nil =>
      replace e : Bool.rec (motive := fun _ => RT) none (mset id (.cells cs) s1 K) (Nat.ble off (lenN cs)) = some r := e
      obtain ⟨h3, e⟩ := br_t e
      have h3 := ble_le h3
      rw [lenN_eq] at h3
      refine ⟨cs, ?_, e⟩
      unfold spliceL
      rw [if_pos (by simpa using h3)]
      simp
    | cons v vs =>
      replace e : putC (v :: vs) cs off (fun cs => mset id (.cells cs) s1 K) = some r := e
      obtain ⟨cs', h3, e⟩ := putC_el e
      rcases putL_eq h3 with ⟨h4, _⟩ | h4
      · cases h4
      · exact ⟨cs', h4, e⟩
  obtain ⟨cs', h3, e⟩ := key
  obtain ⟨s2, h4, nx2, e⟩ := mset_el nx.rel e
  refine ⟨_, s2, ?_, by simpa using nx.trans nx2, e⟩
  simp [storeAtA, AM.bind, AM.get, AM.lift, AM.pure, AM.set, h1, h2, h3]

/- what is appended -/
theorem src_el {x : AV} {s' : Nat} {s : HS} {h : Heap} {n : Nat} {K : List AV → Nat → HS → RT} (hr : Rel s h n) (e : srcC x s' s K = some r) : ∃ l m lg s1, srcA s' x h n = some ((l, m), h, n, lg) ∧ Nx s h n lg s1 h n ∧ K l m s1 = some r := by
  cases x with
  | str t =>
    replace e : bytesC t (fun l => forceN (lenN t) fun n => K l n s) = some r := e
    rw [bytesC_eq, forceN_eq, lenN_eq] at e
    exact ⟨_, _, _, s, rfl, Nx.refl hr, e⟩
  | nil k =>
    cases k with
    | sl => exact ⟨_, _, _, s, rfl, Nx.refl hr, e⟩
    | _ => exact (nn e).elim
  | sl id off m sz =>
    replace e : Bool.rec (motive := fun _ => RT) none (mcells id s fun cs s => sliC cs off (Nat.mul m s') fun l => K l m s) (Nat.beq sz s') = some r := e
    obtain ⟨h1, e⟩ := br_t e
    have h1 := beq_eq h1
    obtain ⟨cs, s1, h2, nx, e⟩ := mcells_el hr e
    obtain ⟨l, h3, e⟩ := sliC_el e
    refine ⟨l, m, ([id], []), s1, ?_, nx, e⟩
    have h3 : sliceL cs off (m * s') = some l := h3
    simp [srcA, h1, AM.bind, cellsAt, AM.get, h2, AM.lift, h3, AM.pure]
  | tsl cs m =>
    replace e : sliC cs 0 (Nat.mul m s') (fun l => K l m s) = some r := e
    obtain ⟨l, h3, e⟩ := sliC_el e
    refine ⟨l, m, ([], []), s, ?_, Nx.refl hr, e⟩
    have h3 : sliceL cs 0 (m * s') = some l := h3
    simp [srcA, AM.bind, AM.lift, h3, AM.pure]
  | _ => exact (nn e).elim

/- the rest of an append -/
def appR (s' b : Nat) (x : AV) (src : List AV × Nat) : AM AV := match lenOfA x with
  | some l => if (l + src.2) * (b + 1) ≤ 2 ^ 44 ∧ src.1.length = src.2 * s' ∧ src.1.all AV.one then appendTo s' x src.1 src.2 else AM.fail
  | none => AM.fail
theorem appE_el {s' b : Nat} {x : AV} {new : List AV} {m : Nat} {s : HS} {h : Heap} {n : Nat} {K : AV → HS → RT} (hr : Rel s h n) (e : appE s' b x new m s K = some r) : ∃ v h' n' lg s1, appR s' b x (new, m) h n = some (v, h', n', lg) ∧ Nx s h n lg s1 h' n' ∧ K v s1 = some r := by
  unfold appE at e
  obtain ⟨l, h1, e⟩ := lenV_el e
  obtain ⟨h2, e⟩ := br_t e
  obtain ⟨h3, e⟩ := br_t e
  obtain ⟨h4, e⟩ := br_t e
  have h2 : (l + m) * (b + 1) ≤ 17592186044416 := ble_le h2
  have h3 := beq_eq h3
  rw [lenN_eq] at h3
  rw [onesB_eq] at h4
  have h3 : new.length = m * s' := h3
  have hd : appR s' b x (new, m) = appendTo s' x new m := by
    unfold appR
    rw [h1]
    simp only []
    rw [if_pos ⟨h2, h3, h4⟩]
  rw [hd]
  cases m with
  | zero =>
    refine ⟨x, h, n, ([], []), s, ?_, Nx.refl hr, e⟩
    simp [appendTo, AM.pure]
  | succ m =>
    replace e : appC x s' new (m + 1) s K = some r := e
    cases x with
    | nil k =>
      cases k with
      | sl =>
        replace e : mnew (.cells new) s (fun id s => K (.sl id 0 (m + 1) s') s) = some r := e
        obtain ⟨s1, nx, e⟩ := mnew_el hr e
        refine ⟨_, _, _, ([], []), s1, ?_, nx, e⟩
        simp [appendTo, AM.bind, AM.new, AM.pure]
      | _ => exact (nn e).elim
    | sl id off len sz =>
      replace e : Bool.rec (motive := fun _ => RT) none (mcells id s fun cs s => sliC cs off (Nat.mul len s') fun old => mkill id s fun _ s => catC old new fun cs => mnew (.cells cs) s fun id s => forceN (Nat.add len (m + 1)) fun l => K (.sl id 0 l s') s) (Nat.beq sz s') = some r := e
      obtain ⟨h5, e⟩ := br_t e
      have h5 := beq_eq h5
      obtain ⟨cs, s1, h6, nx1, e⟩ := mcells_el hr e
      obtain ⟨old, h7, e⟩ := sliC_el e
      obtain ⟨s2, h8, nx2, e⟩ := mkill_el nx1.rel e
      rw [catC_eq] at e
      obtain ⟨s3, nx3, e⟩ := mnew_el nx2.rel e
      rw [forceN_eq] at e
      have h7 : sliceL cs off (len * s') = some old := h7
      refine ⟨_, _, _, ([id], [id]), s3, ?_, by simpa using (nx1.trans nx2).trans nx3, e⟩
      simp [appendTo, h5, AM.bind, cellsAt, AM.get, h6, AM.lift, h7, AM.kill, AM.new, AM.pure]
    | _ => exact (nn e).elim

/- frozen at birth -/
theorem frz_el {v : AV} {s : HS} {h : Heap} {n : Nat} {K : AV → HS → RT} (hr : Rel s h n) (e : frzC v s K = some r) : ∃ w h' lg s1, frz1 v h n = some (w, h', n, lg) ∧ Nx s h n lg s1 h' n ∧ K w s1 = some r := by
  cases v with
  | ptr id off =>
    replace e : mcells id s (fun cs s => mkill id s fun _ s => K (.tptr cs off) s) = some r := e
    obtain ⟨cs, s1, h1, nx1, e⟩ := mcells_el hr e
    obtain ⟨s2, h2, nx2, e⟩ := mkill_el nx1.rel e
    refine ⟨_, _, ([id], [id]), s2, ?_, by simpa using nx1.trans nx2, e⟩
    simp [frz1, AM.bind, AM.get, h1, AM.kill, AM.pure]
  | sl id off len sz =>
    replace e : mcells id s (fun cs s => sliC cs off (Nat.mul len sz) fun cs => mkill id s fun _ s => K (.tsl cs len) s) = some r := e
    obtain ⟨cs, s1, h1, nx1, e⟩ := mcells_el hr e
    obtain ⟨l, h3, e⟩ := sliC_el e
    obtain ⟨s2, h2, nx2, e⟩ := mkill_el nx1.rel e
    have h3 : sliceL cs off (len * sz) = some l := h3
    refine ⟨_, _, ([id], [id]), s2, ?_, by simpa using nx1.trans nx2, e⟩
    simp [frz1, AM.bind, AM.get, h1, AM.lift, h3, AM.kill, AM.pure]
  | _ => exact ⟨_, h, ([], []), s, rfl, Nx.refl hr, e⟩
theorem shut_run {m : AM AV} {v w : AV} {s s1 s2 : HS} {h h1 h2 : Heap} {n n1 : Nat} {l1 l2 : Log} (hr : Rel s h n) (e1 : m h n = some (v, h1, n1, l1)) (nx1 : Nx s h n l1 s1 h1 n1) (e2 : frz1 v h1 n1 = some (w, h2, n1, l2)) (nx2 : Nx s1 h1 n1 l2 s2 h2 n1) :
    ∃ lg, shut m h n = some (w, h2, n1, lg) ∧ Nx s h n lg s2 h2 n1 := by
  refine ⟨_, ?_, (nx1.trans nx2).hush hr.mw⟩
  unfold shut hush AM.bind
  rw [e1]
  simp only [e2]
/- a new one, frozen -/
theorem shut_new {cs : List AV} {v : AV} {k : Nat → AV} {h : Heap} {n : Nat} {s : HS} (hr : Rel s h n) (hk : frz1 (k n) (upd h n (some (.cells cs))) (n + 1) = some (v, upd (upd h n (some (.cells cs))) n none, n + 1, ([n], [n]))) :
    shut (AM.bind (AM.new (.cells cs)) fun id => AM.pure (k id)) h n = some (v, h, n + 1, ([], [])) := hush_new hr.fresh hk

theorem rep_eq (z : List AV) : ∀ (n : Nat) (l : List AV) (k : List AV → RT), repC z n l k = k ((List.replicate n z).flatten ++ l)
  | 0, l, k => rfl
  | n + 1, l, k => by
    show repC z n l (fun r => catC z r k) = _
    rw [rep_eq z n, catC_eq, List.replicate_succ, List.flatten_cons, List.append_assoc]
theorem zeros_eq (z : List AV) (n : Nat) : zerosA z (n * z.length) = (List.replicate n z).flatten := by
  unfold zerosA
  induction n with
  | zero => simp
  | succ n ih =>
    rw [List.replicate_succ, List.flatten_cons, ← ih, Nat.succ_mul, Nat.add_comm, List.range_add, List.map_append]
    congr 1
    · apply List.ext_getElem
      · simp
      · intro i h1 h2
        simp only [List.getElem_map, List.getElem_range]
        rw [Nat.mod_eq_of_lt h2, List.getD_eq_getElem?_getD, List.getElem?_eq_getElem h2]
        rfl
    · rw [List.map_map]
      apply List.map_congr_left
      intro i _
      simp

theorem optI_bounds {R : RG} {rg : Nat → AV} (hs : Regs R rg) {lo0 hi0 : Option Operand} {lo hi : Option SX} {len l m : Nat} (q1 : slOpt A lo0 = some lo) (q2 : slOpt A hi0 = some hi) (h1 : evI (R3 R) ((0 : Nat) : Int) lo = some (l : Int)) (h2 : evI (R3 R) (len : Int) hi = some (m : Int)) (hb : l ≤ m ∧ m ≤ len) :
    ∃ a b, evo (evalA A rg) lo0 = some a ∧ evo (evalA A rg) hi0 = some b ∧ boundsA len a b = some (l, m) := by
  obtain ⟨a, a1, a2⟩ := evI_sound hs.sat q1 h1
  obtain ⟨b, b1, b2⟩ := evI_sound hs.sat q2 h2
  refine ⟨a, b, a1, b1, ?_⟩
  have := bounds_sound (len := len) a2 b2 ⟨by omega, by omega, by omega⟩
  simpa using this
end
end Go.Abs
