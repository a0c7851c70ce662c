import Derived.Test.YtmnnmgfjlokmkaaGreatAbsSlimX
namespace Go.Abs
section
variable (P : Program) (A : Ann) (f nt : Nat)
def cq (Q : AX → Env → List Nat → Heap → Prop) : AX → Fr → Heap → Prop := fun x fr h => ∃ E, Sat (lk E) fr.regs ∧ Q x E fr.boxes h
def SRun (c : SC) (E : Env) (bx : List Nat) (h : Heap) (Q : AX → Env → List Nat → Heap → Prop) : Prop :=
 ∀ c0 rg, slC P A f c0 = some c → Sat (lk E) rg → Runs P A f nt c0 ⟨rg, bx⟩ h (cq Q)
def SOps (h0 : Heap) (q : Nat) (l : List SO) (E : Env) (bx : List Nat) (h : Heap) (Q : AX → Env → List Nat → Heap → Prop) : Prop :=
 ∀ ops l0 rg, slOs P A f ops l0 = some l → Sat (lk E) rg → Ops P A f nt ops h0 q l0 ⟨rg, bx⟩ h (rq (cq Q))
def ssq (b : SC) (Q : AX → Env → List Nat → Heap → Prop) : AX → Env → List Nat → Heap → Prop := fun x E bx h => match x with
 | .norm => SRun P A f nt b E bx h Q
 | e => Q e E bx h
def sbq (id : Nat) (Q : AX → Env → List Nat → Heap → Prop) : AX → Env → List Nat → Heap → Prop := fun x E bx h => Q (if x = .exit id then .norm else x) E bx h
def Sub (E' E : Env) : Prop := ∀ t v, lk E' t = some v → lk E t = some v
def slq {σ : Type} (env : σ → Env) (H : σ → Heap → Prop) (m : σ → Nat) (s : σ) (bx0 : List Nat) (Q : AX → Env → List Nat → Heap → Prop) : AX → Env → List Nat → Heap → Prop := fun x E bx h => match x with
 | .norm => ∃ s', m s' < m s ∧ Sub (env s') E ∧ bx = bx0 ∧ H s' h
 | e => Q e E bx h
end
theorem slC_inv {P : Program} {A : Ann} {f : Nat} {c0 : Code} {c : SC} (hc : slC P A f c0 = some c) : match c with
  | .skip => c0 = .skip
  | .reg ps l => ∃ i ops dr, c0 = .region i ops dr ∧ slOs P A f ops ops.toList = some l ∧ (if dr then openN A f ops else []) = ps
  | .seq a b => ∃ a0 b0, c0 = .seq a0 b0 ∧ slC P A f a0 = some a ∧ slC P A f b0 = some b
  | .cond x a b => ∃ x0 a0 b0, c0 = .cond x0 a0 b0 ∧ slX A x0 = some x ∧ slC P A f a0 = some a ∧ slC P A f b0 = some b
  | .block id b => ∃ b0, c0 = .block id b0 ∧ slC P A f b0 = some b
  | .loop b => ∃ b0, c0 = .loop b0 ∧ slC P A f b0 = some b
  | .exit id => c0 = .exit id
  | .ret => c0 = .ret := by
 cases c0 with
 | skip => simp only [slC, Option.some.injEq] at hc; subst hc; rfl
 | region i ops dr => obtain ⟨l, h1, rfl⟩ := omap hc; exact ⟨i, ops, dr, rfl, h1, rfl⟩
 | seq a b =>
  simp only [slC] at hc
  split at hc
  ·rename_i a' b' h1 h2
   simp only [Option.some.injEq] at hc
   subst hc
   exact ⟨a, b, rfl, h1, h2⟩
  ·cases hc
 | cond x a b =>
  simp only [slC] at hc
  split at hc
  ·rename_i x' a' b' h0 h1 h2
   simp only [Option.some.injEq] at hc
   subst hc
   exact ⟨x, a, b, rfl, h0, h1, h2⟩
  ·cases hc
 | block i b => obtain ⟨l, h1, rfl⟩ := omap hc; exact ⟨b, rfl, h1⟩
 | loop b => obtain ⟨l, h1, rfl⟩ := omap hc; exact ⟨b, rfl, h1⟩
 | exit i => simp only [slC, Option.some.injEq] at hc; subst hc; rfl
 | ret => simp only [slC, Option.some.injEq] at hc; subst hc; rfl
 | _ => simp [slC] at hc
section
variable {P : Program} {A : Ann} {f nt : Nat} {E : Env} {bx : List Nat} {h : Heap} {Q : AX → Env → List Nat → Heap → Prop}
theorem s_skip (H : Q .norm E bx h) : SRun P A f nt .skip E bx h Q := by
 intro c0 rg hc hs
 obtain rfl : c0 = .skip := slC_inv hc
 exact go_skip ⟨E, hs, H⟩
theorem s_exit {i : Nat} (H : Q (.exit i) E bx h) : SRun P A f nt (.exit i) E bx h Q := by
 intro c0 rg hc hs
 obtain rfl : c0 = .exit i := slC_inv hc
 exact go_exit ⟨E, hs, H⟩
theorem s_ret (H : Q .ret E bx h) : SRun P A f nt .ret E bx h Q := by
 intro c0 rg hc hs
 obtain rfl : c0 = .ret := slC_inv hc
 exact go_ret ⟨E, hs, H⟩
theorem s_reg {ps : List (Nat × Nat)} {l : List SO} (H : SOps P A f nt h (bnd ps) l E bx h Q) : SRun P A f nt (.reg ps l) E bx h Q := by
 intro c0 rg hc hs
 obtain ⟨i, ops, dr, rfl, h1, rfl⟩ := slC_inv hc
 have e : (if dr then quietN A f ops else 0) = bnd (if dr then openN A f ops else []) := by cases dr <;> rfl
 refine go_region ?_
 rw [e]
 exact H ops ops.toList rg h1 hs
theorem s_reg0 {l : List SO} (H : SOps P A f nt h 0 l E bx h Q) : SRun P A f nt (.reg [] l) E bx h Q := s_reg H
theorem s_seq {a b : SC} (H : SRun P A f nt a E bx h (ssq P A f nt b Q)) : SRun P A f nt (.seq a b) E bx h Q := by
 intro c0 rg hc hs
 obtain ⟨a0, b0, rfl, h1, h2⟩ := slC_inv hc
 refine go_seq ((H a0 rg h1 hs).mono ?_)
 rintro x fr h' ⟨E', hs', q⟩
 cases x with
 | norm => exact q b0 fr.regs h2 hs'
 | exit i => exact ⟨E', hs', q⟩
 | ret => exact ⟨E', hs', q⟩
theorem s_cond {x : SX} {a b : SC} {p : Bool} (hx : ev (lk E) x = some (.bool p)) (H1 : p = true → SRun P A f nt a E bx h Q) (H2 : p = false → SRun P A f nt b E bx h Q) : SRun P A f nt (.cond x a b) E bx h Q := by
 intro c0 rg hc hs
 obtain ⟨x0, a0, b0, rfl, h0, h1, h2⟩ := slC_inv hc
 exact go_cond (ev_sound hs h0 hx) (fun hp => H1 hp a0 rg h1 hs) (fun hp => H2 hp b0 rg h2 hs)
theorem s_block {i : Nat} {b : SC} (H : SRun P A f nt b E bx h (sbq i Q)) : SRun P A f nt (.block i b) E bx h Q := by
 intro c0 rg hc hs
 obtain ⟨b0, rfl, h1⟩ := slC_inv hc
 refine go_block ((H b0 rg h1 hs).mono ?_)
 rintro x fr h' ⟨E', hs', q⟩
 exact ⟨E', hs', q⟩
theorem s_loop {b : SC} {σ : Type} (env : σ → Env) (HI : σ → Heap → Prop) (m : σ → Nat) (s0 : σ) (h0 : Sub (env s0) E) (hH : HI s0 h) (H : ∀ s h, HI s h → SRun P A f nt b (env s) bx h (slq env HI m s bx Q)) : SRun P A f nt (.loop b) E bx h Q := by
 intro c0 rg hc hs
 obtain ⟨b0, rfl, h1⟩ := slC_inv hc
 refine go_loop (fun s fr h => Sat (lk (env s)) fr.regs ∧ fr.boxes = bx ∧ HI s h) m s0 ⟨fun t v e => hs t v (h0 t v e), rfl, hH⟩ ?_
 rintro s ⟨rg', bx'⟩ h' ⟨q1, q2, q3⟩
 simp only at q1 q2
 subst q2
 refine (H s h' q3 b0 rg' h1 q1).mono ?_
 rintro x fr h2 ⟨E', hs', q⟩
 cases x with
 | norm =>
  obtain ⟨s', w1, w2, w3, w4⟩ := q
  exact ⟨s', w1, fun t v e => hs' t v (w2 t v e), w3, w4⟩
 | exit i => exact ⟨E', hs', q⟩
 | ret => exact ⟨E', hs', q⟩
theorem ssq_norm {b : SC} (H : SRun P A f nt b E bx h Q) : ssq P A f nt b Q .norm E bx h := H
theorem ssq_exit {b : SC} {i : Nat} (H : Q (.exit i) E bx h) : ssq P A f nt b Q (.exit i) E bx h := H
theorem ssq_ret {b : SC} (H : Q .ret E bx h) : ssq P A f nt b Q .ret E bx h := H
theorem sbq_norm {i : Nat} (H : Q .norm E bx h) : sbq i Q .norm E bx h := H
theorem sbq_ret {i : Nat} (H : Q .ret E bx h) : sbq i Q .ret E bx h := H
theorem sbq_hit {i : Nat} (H : Q .norm E bx h) : sbq i Q (.exit i) E bx h := by simpa [sbq] using H
theorem sbq_miss {i j : Nat} (hij : (j == i) = false) (H : Q (.exit j) E bx h) : sbq i Q (.exit j) E bx h := by
 have : j ≠ i := by simpa using hij
 simpa [sbq, this] using H
theorem sub_nil : Sub [] E := fun _ _ e => by cases e
theorem sub_cons {E' : Env} {t : Nat} {v : AV} (h1 : lk E t = some v) (h2 : Sub E' E) : Sub ((t, v) :: E') E := by
 intro u w e
 simp only [lk] at e
 split at e
 ·rename_i he
  simp only [Option.some.injEq] at e
  rw [← he, h1, e]
 ·exact h2 u w e
def dstOk' (nt : Nat) : Option Nat → Bool
 | none => true
 | some d => decide (d < nt)
theorem o_nil {h0 : Heap} {q : Nat} (H : Q .norm E bx h) : SOps P A f nt h0 q [] E bx h Q := by
 intro ops l0 rg hl hs
 cases l0 with
 | nil => exact ops_nil ⟨E, hs, H⟩
 | cons o r =>
  simp only [slOs] at hl
  split at hl <;> simp at hl
theorem slOs_cons {ops : Array Oper} {l0 : List Oper} {o : SO} {r : List SO} (h : slOs P A f ops l0 = some (o :: r)) : ∃ o0 r0, l0 = o0 :: r0 ∧ slO P A f ops o0 = some o ∧ slOs P A f ops r0 = some r := by
 cases l0 with
 | nil => simp [slOs] at h
 | cons o0 r0 =>
  simp only [slOs] at h
  split at h
  ·rename_i a b h1 h2
   simp only [Option.some.injEq, List.cons.injEq] at h
   obtain ⟨rfl, rfl⟩ := h
   exact ⟨o0, r0, rfl, h1, h2⟩
  ·cases h
theorem sv_rd {h0 : Heap} {q : Nat} {o : Oper} {k : SK} {p : Prop} {v : AV} {rg : Nat → AV} (hk : slK P A (roAt A f o.dst) o.op = some k) (hs : Sat (lk E) rg) (hv : sv (lk E) k = some (p, v)) (hp : p) : RdOp P A f h0 q o rg h v := by
 cases hro : roAt A f o.dst with
 | false =>
  rw [hro] at hk
  refine rd_pure ?_
  unfold opV
  split
  ·rename_i x args ts ho
   rw [ho] at hk
   simp only [slK] at hk
   split at hk
   ·simp only [Option.some.injEq] at hk
    subst hk
    simp [sv] at hv
   ·cases hk
  ·rename_i x m args ts ho
   rw [ho] at hk
   simp only [slK] at hk
   split at hk
   ·simp only [Option.some.injEq] at hk
    subst hk
    simp [sv] at hv
   ·cases hk
  ·rw [hro]
   simp only [Bool.false_eq_true, if_false]
   exact sv_pure hk hs hv hp
 | true =>
  rw [hro] at hk
  obtain ⟨dst, op, ty, pos, after, g⟩ := o
  simp only at hk hro ⊢
  cases op with
  | box t x =>
   simp only [slK, if_true] at hk
   obtain ⟨y, hy, rfl⟩ := omap hk
   simp only [sv] at hv
   split at hv
   ·rename_i w hw
    have fin : ∀ cs, w.cells = cs → cs.all AV.one = true → v = .tptr cs 0 → RdOp P A f h0 q ⟨dst, .box t x, ty, pos, after, g⟩ rg h v := by
     rintro cs hcs ho rfl
     refine rd_ro_ptr hro (by simp) ?_
     simp only [opM, ev_sound hs hy hw, lift_some_eq, pure_bind, hcs, ho, if_true]
    split at hv
    ·rename_i cs
     simp only [Option.some.injEq, Prod.mk.injEq] at hv
     obtain ⟨rfl, rfl⟩ := hv
     exact fin cs rfl hp rfl
    ·rename_i hna
     simp only [Option.some.injEq, Prod.mk.injEq] at hv
     obtain ⟨rfl, rfl⟩ := hv
     refine fin [w] ?_ (by simp [hp]) rfl
     cases w <;> first | rfl | exact absurd rfl (hna _)
   ·cases hv
  | buildSlice t n ps =>
   simp only [slK, if_true] at hk
   split at hk
   ·rename_i e he
    split at hk
    ·rename_i s z hs1 hz
     split at hk
     ·rename_i hc
      obtain ⟨l, hl, rfl⟩ := omap hk
      simp only [sv] at hv
      split at hv
      ·rename_i cs hcs
       simp only [Option.some.injEq, Prod.mk.injEq] at hv
       obtain ⟨rfl, rfl⟩ := hv
       obtain ⟨vs, e1, e2⟩ := fillS_sound hs hl hcs
       refine rd_ro_sl (cs := cs) (sz := s) hro (by simp [NC]) ?_ ?_
       ·simp only [opM, e1, lift_some_eq, pure_bind, buildSliceA, he, hs1, hz]
        rw [if_pos hc]
        simp only [e2, lift_some_eq, pure_bind, hp.2, if_true]
       ·unfold sliceL
        rw [if_pos (by omega)]
        simp [← hp.1]
      ·cases hv
     ·cases hk
    ·cases hk
   ·cases hk
  | call c =>
   obtain ⟨callee, args, ts⟩ := c
   cases callee with
   | value x =>
    simp only [slK] at hk
    split at hk
    ·simp only [Option.some.injEq] at hk
     subst hk
     simp [sv] at hv
    ·cases hk
   | invoke x m =>
    simp only [slK] at hk
    split at hk
    ·simp only [Option.some.injEq] at hk
     subst hk
     simp [sv] at hv
    ·cases hk
   | builtin b => cases b <;> simp [slK] at hk
  | slice t x lo hi mx => cases mx <;> simp [slK] at hk
  | _ => simp [slK] at hk
theorem slO_some {ops : Array Oper} {o0 : Oper} {o : SO} (h : slO P A f ops o0 = some o) : o.dst = o0.dst ∧ o.k = slAll P A f o0.dst o0.op ∧
  ((o0.guard = none ∧ o.guard = none) ∨ ∃ j w e, o0.guard = some (j, w) ∧ o.guard = some (e, w) ∧ (ops[j]?).bind (·.dst) = some e) := by
 unfold slO at h
 split at h
 ·rename_i g hg
  simp only [Option.some.injEq] at h
  subst h
  refine ⟨rfl, rfl, ?_⟩
  split at hg
  ·rename_i h1
   simp only [Option.some.injEq] at hg
   exact .inl ⟨h1, hg.symm⟩
  ·rename_i j w h1
   obtain ⟨e, he, rfl⟩ := omap hg
   exact .inr ⟨j, w, e, h1, rfl, he⟩
 ·cases h
theorem put_plain {o : Oper} {d : Nat} {v : AV} {rg : Nat → AV} (hd : o.dst = some d) (hlt : d < nt) (hb : isBox o.op = true → ∃ cs i, v = .tptr cs i) : putA A f nt o v ⟨rg, bx⟩ = some ⟨upd rg d v, bx⟩ := by
 unfold putA
 rw [hd]
 simp only [hlt, if_true]
 cases hx : isBox o.op with
 | false => simp
 | true =>
  obtain ⟨cs, i, rfl⟩ := hb hx
  simp
theorem sv_box {ro : Bool} {op : Op} {k : SK} {p : Prop} {v : AV} (hk : slK P A ro op = some k) (hv : sv (lk E) k = some (p, v)) (hb : isBox op = true) : ∃ cs i, v = .tptr cs i := by
 cases op with
 | box t x =>
  simp only [slK] at hk
  split at hk
  ·obtain ⟨y, hy, rfl⟩ := omap hk
   simp only [sv] at hv
   split at hv
   ·split at hv <;> simp only [Option.some.injEq, Prod.mk.injEq] at hv <;> exact ⟨_, _, hv.2.symm⟩
   ·cases hv
  ·cases hk
 | alloc t => simp [slK] at hk
 | _ => simp [isBox] at hb
def heapy : SK → Bool
 | .raw | .hbox _ _ | .alc _ _ | .st _ _ _ | .app _ _ _ _ | .apps _ _ _ _ | .appT _ _ _ _ | .appsT _ _ _ _ | .appz _ _ _ _ _ | .sla _ _ _ _ _ | .cvs _ | .cpy _ _ _ | .hbs _ _ _ _ | .mks _ _ _ _ _ _ | .s2b _ _ | .mkm | .lku _ _ _ _ _ | .mup _ _ _ _ | .clr _ _ _ => true
 | _ => false
theorem sv_heapy {k : SK} (h : heapy k = true) : sv (lk E) k = none := by
 cases k <;> first | rfl | (simp [heapy] at h)
theorem slH_heapy {dst : Option Tmp} {ro : Bool} {op : Op} {k : SK} (h : slH P A f dst ro op = some k) : heapy k = true := by
 cases op with
 | slice t x lo hi mx => cases mx <;> simp only [slH] at h <;> repeat' (first | (cases h; done) | (cases h; rfl) | (obtain ⟨_, _, rfl⟩ := omap h; rfl) | (split at h))
 | makeMap t r => cases r <;> simp only [slH] at h <;> repeat' (first | (cases h; done) | (cases h; rfl) | (obtain ⟨_, _, rfl⟩ := omap h; rfl) | (split at h))
 | call c =>
  obtain ⟨callee, args, ts⟩ := c
  cases callee with
  | builtin b => cases ro <;> cases b <;> simp only [slH, Bool.false_eq_true, if_false, if_true] at h <;> repeat' (first | (cases h; done) | (cases h; rfl) | (obtain ⟨_, _, rfl⟩ := omap h; rfl) | (split at h))
  | _ => simp [slH] at h
 | _ =>
  simp only [slH] at h
  repeat' (first | (cases h; done) | (cases h; rfl) | (obtain ⟨_, _, rfl⟩ := omap h; rfl) | (split at h))
theorem getD_raw {o : Oper} {k : SK} (h : k = slAll P A f o.dst o.op) (hk : heapy k = false) : slK P A (roAt A f o.dst) o.op = some k := by
 unfold slAll at h
 split at h
 ·rename_i k' hk'
  rw [hk', h]
 ·exfalso
  cases hh : slH P A f o.dst (roAt A f o.dst) o.op with
  | none => rw [hh] at h; subst h; cases hk
  | some k' => rw [hh] at h; subst h; rw [slH_heapy hh] at hk; cases hk
theorem o_val {h0 : Heap} {q : Nat} {d : Nat} {k : SK} {r : List SO} {p : Prop} {v : AV} (hlt : (decide (d < nt)) = true) (hv : sv (lk E) k = some (p, v)) (hp : p) (H : SOps P A f nt h0 (q - 1) r ((d, v) :: E) bx h Q) :
  SOps P A f nt h0 q (⟨some d, none, k⟩ :: r) E bx h Q := by
 intro ops l0 rg hl hs
 obtain ⟨o0, r0, rfl, h1, h2⟩ := slOs_cons hl
 obtain ⟨e1, e2, e3⟩ := slO_some h1
 have hk : slK P A (roAt A f o0.dst) o0.op = some k := getD_raw e2 (by cases hh : heapy k with | false => rfl | true => rw [sv_heapy hh] at hv; cases hv)
 have hg : o0.guard = none := by
  rcases e3 with ⟨e, _⟩ | ⟨_, _, _, _, e, _⟩
  ·exact e
  ·cases e
 refine ops_rd (by unfold wantedA; rw [hg]) (sv_rd hk hs hv hp) (put_plain e1.symm (by simpa using hlt) (sv_box hk hv)) (H ops r0 _ h2 (hs.put d v))
theorem o_bool {h0 : Heap} {q : Nat} {d : Nat} {k : SK} {r : List SO} {p : Prop} {e : Bool} (hlt : (decide (d < nt)) = true) (hv : sv (lk E) k = some (p, .bool e)) (hp : p) (H : ∀ b, b = e → SOps P A f nt h0 (q - 1) r ((d, .bool b) :: E) bx h Q) :
  SOps P A f nt h0 q (⟨some d, none, k⟩ :: r) E bx h Q := o_val hlt hv hp (H e rfl)
def undefE (dst : Option Nat) (E : Env) : Env := match dst with
 | some d => (d, .undef) :: E
 | none => E
theorem o_guard {h0 : Heap} {q : Nat} {dst : Option Nat} {k : SK} {r : List SO} {e : Nat} {w b : Bool} (he : lk E e = some (.bool b)) (hd : dstOk' nt dst = true) (H1 : b = w → SOps P A f nt h0 q (⟨dst, none, k⟩ :: r) E bx h Q)
  (H2 : b = !w → SOps P A f nt h0 (q - 1) r (undefE dst E) bx h Q) : SOps P A f nt h0 q (⟨dst, some (e, w), k⟩ :: r) E bx h Q := by
 intro ops l0 rg hl hs
 obtain ⟨o0, r0, rfl, h1, h2⟩ := slOs_cons hl
 obtain ⟨e1, e2, e3⟩ := slO_some h1
 rcases e3 with ⟨_, e3⟩ | ⟨j, w', e', g1, g2, g3⟩
 ·cases e3
 ·simp only [Option.some.injEq, Prod.mk.injEq] at g2
  obtain ⟨rfl, rfl⟩ := g2
  have hw : wantedA ops o0 rg = some (b == w) := by
   unfold wantedA
   rw [g1]
   simp only [g3, hs e _ he]
  by_cases hbw : b = w
  ·have hw' : wantedA ops o0 rg = some true := by rw [hw, hbw]; simp
   have hstep : ∀ call h n, stepA call P A f nt ops o0 ⟨rg, bx⟩ h n = stepA call P A f nt ops { o0 with guard := none } ⟨rg, bx⟩ h n := by
    intro call h n
    unfold stepA
    rw [hw']
    rfl
   have hsl : slOs P A f ops ({ o0 with guard := none } :: r0) = some (⟨dst, none, k⟩ :: r) := by
    simp only [slOs, slO, h2]
    simp only at e1 e2
    rw [← e2, ← e1]
   have := H1 hbw ops _ rg hsl hs
   intro n hn
   obtain ⟨kk, fr1, h1', n1, lgs, q1, q2, q3⟩ := this n hn
   refine ⟨kk, fr1, h1', n1, lgs, ?_, q2, q3⟩
   rw [← q1]
   simp only [runLog, hstep]
  ·have hb' : b = !w := by cases b <;> cases w <;> first | rfl | exact absurd rfl hbw
   have hw' : wantedA ops o0 rg = some false := by rw [hw, hb']; cases w <;> rfl
   simp only at e1
   cases dst with
   | none => exact ops_skip hw' (by unfold skipA; rw [← e1]) (H2 hb' ops r0 rg h2 hs)
   | some d =>
    simp only [dstOk', decide_eq_true_eq] at hd
    exact ops_skip (fr1 := ⟨upd rg d .undef, bx⟩) hw' (by unfold skipA; rw [← e1]; simp only [hd, if_true]) (H2 hb' ops r0 _ h2 (hs.put d .undef))
theorem o_call {h0 : Heap} {q : Nat} {d : Nat} {x : SX} {args : List SX} {r : List SO} {g : Nat} {first cap vs : List AV} {v : AV} (hlt : (decide (d < nt)) = true) (hx : ev (lk E) x = some (.fn g first cap)) (ha : evS (lk E) args = some vs)
  (hc : PureC P A g (first ++ vs ++ cap) v) (H : SOps P A f nt h0 (q - 1) r ((d, v) :: E) bx h Q) : SOps P A f nt h0 q (⟨some d, none, .call x args⟩ :: r) E bx h Q := by
 intro ops l0 rg hl hs
 obtain ⟨o0, r0, rfl, h1, h2⟩ := slOs_cons hl
 obtain ⟨e1, e2, e3⟩ := slO_some h1
 have hk : slK P A (roAt A f o0.dst) o0.op = some (.call x args) := getD_raw e2 rfl
 have hg : o0.guard = none := by
  rcases e3 with ⟨e, _⟩ | ⟨_, _, _, _, e, _⟩
  ·exact e
  ·cases e
 obtain ⟨x0, a0, ts, ho, hx0, ha0⟩ : ∃ x0 a0 ts, o0.op = .call { callee := .value x0, args := a0, argTypes := ts } ∧ slX A x0 = some x ∧ slXs A a0.toList = some args := by
  generalize hop : o0.op = op at hk
  cases op with
  | call c =>
   obtain ⟨callee, a0, ts⟩ := c
   cases callee with
   | value x0 =>
    simp only [slK] at hk
    split at hk
    ·rename_i y a h3 h4
     simp only [Option.some.injEq, SK.call.injEq] at hk
     obtain ⟨rfl, rfl⟩ := hk
     exact ⟨x0, a0, ts, rfl, h3, h4⟩
    ·cases hk
   | invoke x0 m =>
    exfalso
    simp only [slK] at hk
    split at hk
    ·simp at hk
    ·cases hk
   | builtin b =>
    exfalso
    cases b <;> simp only [slK] at hk <;> repeat' (first | (cases hk; done) | (obtain ⟨_, _, h⟩ := omap hk; cases h; done) | (split at hk))
  | slice t x lo hi mx =>
   exfalso
   cases mx <;> simp only [slK] at hk <;> repeat' (first | (cases hk; done) | (obtain ⟨_, _, h⟩ := omap hk; cases h; done) | (split at hk))
  | _ =>
   exfalso
   simp only [slK] at hk
   repeat' (first | (cases hk; done) | (obtain ⟨_, _, h⟩ := omap hk; cases h; done) | (split at hk))
 refine ops_rd (by unfold wantedA; rw [hg]) (rd_call ho (ev_sound hs hx0 hx) (slXs_sound hs ha0 ha) hc) (put_plain e1.symm (by simpa using hlt) (fun hb => by rw [ho] at hb; simp [isBox] at hb)) (H ops r0 _ h2 (hs.put d v))
def sret (P : Program) (A : Ann) (f : Nat) (l : List ResultVar) (v : AV) : AX → Env → List Nat → Heap → Prop := fun x E _ h => match x with
 | .exit _ => False
 | _ => ∀ rg, Sat (lk E) rg → ResV P A f l rg h v
def resE (E : Env) : List ResultVar → Option (List AV)
 | [] => some []
 | .tmp t :: r => match lk E t, resE E r with
  | some a, some l => some (a :: l)
  | _, _ => none
 | .cell _ _ :: _ => none
theorem resE_eq {rg : Nat → AV} (hs : Sat (lk E) rg) : ∀ {l : List ResultVar} {vs : List AV}, resE E l = some vs → resultsA P rg l = AM.pure vs
 | [], vs, h => by simp only [resE, Option.some.injEq] at h; subst h; rfl
 | .tmp t :: r, vs, h => by
  simp only [resE] at h
  split at h
  ·rename_i a l ha hl
   simp only [Option.some.injEq] at h
   subst h
   simp only [resultsA, resE_eq hs hl, pure_bind, hs t a ha]
  ·cases h
 | .cell _ _ :: _, _, h => by simp [resE] at h
theorem res_tmp {l : List ResultVar} {vs : List AV} (hl : resE E l = some vs) (hf : A.fz f = false) : ∀ rg, Sat (lk E) rg → ResV P A f l rg h (tupled vs) := by
 intro rg hs n _
 refine ⟨h, n, ([], []), ?_⟩
 unfold resM
 rw [resE_eq hs hl, pure_bind, hf]
 rfl
theorem sret_ret {l : List ResultVar} {v : AV} (H : ∀ rg, Sat (lk E) rg → ResV P A f l rg h v) : sret P A f l v .ret E bx h := H
theorem sret_norm {l : List ResultVar} {v : AV} (H : ∀ rg, Sat (lk E) rg → ResV P A f l rg h v) : sret P A f l v .norm E bx h := H
def envOf : Nat → List AV → Env
 | _, [] => []
 | i, a :: l => (i, a) :: envOf (i + 1) l
theorem sat_envOf : ∀ (l : List AV) (i : Nat) (rg : Nat → AV), (∀ j a, l[j]? = some a → rg (i + j) = a) → Sat (lk (envOf i l)) rg
 | [], _, _, _ => fun _ _ e => by cases e
 | a :: l, i, rg, h => by
  intro t v e
  simp only [envOf, lk] at e
  split at e
  ·rename_i ht
   simp only [Option.some.injEq] at e
   rw [← ht, ← e]
   exact h 0 a rfl
  ·exact sat_envOf l (i + 1) rg (fun j b hb => by rw [Nat.add_assoc, Nat.add_comm 1 j]; exact h (j + 1) b (by simpa using hb)) t v e
theorem s_pure_of {fn : Func} {sc : SC} {args : List AV} {v : AV} (hf : P.funcs[f]? = some fn) (hb : fn.body.bind (slC P A f) = some sc) (hn : (fn.name == "runtime.NumGoroutine" || decide (fn.ntmps < args.length)) = false) (hs : A.still f = true)
  (hv : v.tree = true) (run : SRun P A f fn.ntmps sc (envOf 0 args) [] hp0 (sret P A f fn.results.toList v)) : PureC P A f args v := by
 obtain ⟨c, hc, hsc⟩ := Option.bind_eq_some_iff.1 hb
 refine pure_of hf hc hn hs hv ((run c (initRegs args) hsc ?_).mono ?_)
 ·refine sat_envOf args 0 _ (fun j a hj => ?_)
  simp [initRegs, List.getD_eq_getElem?_getD, hj]
 ·rintro x fr h' ⟨E', hs', q⟩
  cases x with
  | exit i => exact q.elim
  | norm => exact q _ hs'
  | ret => exact q _ hs'
theorem o_loadn {h0 : Heap} {q : Nat} {d n : Nat} {x : SX} {r : List SO} {cs l : List AV} {o : Nat} (hlt : (decide (d < nt)) = true) (hx : ev (lk E) x = some (.tptr cs o)) (hv : sliceL cs o n = some l) (H : SOps P A f nt h0 (q - 1) r ((d, .agg l) :: E) bx h Q) :
  SOps P A f nt h0 q (⟨some d, none, .ld x (some n)⟩ :: r) E bx h Q := o_val (p := True) hlt (by simp only [sv, hx, hv]) trivial H
end
end Go.Abs
