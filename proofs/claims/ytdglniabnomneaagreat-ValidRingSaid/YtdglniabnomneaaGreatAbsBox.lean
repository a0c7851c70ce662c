/- A frame's boxes are its own; calls that write. -/
import Derived.Test.YtdglniabnomneaaGreatAbsSlimK
namespace Go.Abs

def Own (n n' : Nat) (b b' : List Nat) : Prop := ∀ id ∈ b', id ∈ b ∨ (n ≤ id ∧ id < n')

theorem Own.refl {n : Nat} {b : List Nat} : Own n n b b := fun _ h => .inl h
theorem Own.same {n n' : Nat} {b : List Nat} : Own n n' b b := fun _ h => .inl h
theorem Own.trans {n n1 n2 : Nat} {b b1 b2 : List Nat} (h1 : Own n n1 b b1) (h2 : Own n1 n2 b1 b2) (l1 : n ≤ n1) (l2 : n1 ≤ n2) : Own n n2 b b2 := by
  intro id hid
  rcases h2 id hid with h | h
  · rcases h1 id h with g | g
    · exact .inl g
    · exact .inr ⟨g.1, by omega⟩
  · exact .inr ⟨by omega, h.2⟩

theorem hush_some {α : Type} {m : AM α} {h h' : Heap} {n n' : Nat} {a : α} {lg : Log} (e : hush m h n = some (a, h', n', lg)) : ∃ l1, m h n = some (a, h', n', l1) := by
  unfold hush at e
  split at e
  · cases e
  · rename_i a1 h1 n1 l1 e1
    simp only [Option.some.injEq, Prod.mk.injEq] at e
    obtain ⟨rfl, rfl, rfl, _⟩ := e
    exact ⟨l1, e1⟩

theorem bind_some' {α β : Type} {m : AM α} {f : α → AM β} {h h' : Heap} {n n' : Nat} {b : β} {lg : Log} (e : AM.bind m f h n = some (b, h', n', lg)) : ∃ a h1 n1 l1 l2, m h n = some (a, h1, n1, l1) ∧ f a h1 n1 = some (b, h', n', l2) := by
  unfold AM.bind at e
  split at e
  · cases e
  · rename_i a h1 n1 l1 e1
    split at e
    · cases e
    · rename_i b2 h2 n2 l2 e2
      simp only [Option.some.injEq, Prod.mk.injEq] at e
      obtain ⟨rfl, rfl, rfl, _⟩ := e
      exact ⟨a, h1, n1, l1, l2, e1, e2⟩

theorem pure_some' {α : Type} {a b : α} {h h' : Heap} {n n' : Nat} {lg : Log} (e : AM.pure a h n = some (b, h', n', lg)) : b = a ∧ h' = h ∧ n' = n := by
  simp only [AM.pure, Option.some.injEq, Prod.mk.injEq] at e
  obtain ⟨rfl, rfl, rfl, _⟩ := e
  exact ⟨rfl, rfl, rfl⟩

theorem lift_some' {α : Type} {a : Option α} {b : α} {h h' : Heap} {n n' : Nat} {lg : Log} (e : AM.lift a h n = some (b, h', n', lg)) : a = some b ∧ h' = h ∧ n' = n := by
  cases a with
  | none => cases e
  | some a =>
    obtain ⟨rfl, rfl, rfl⟩ := pure_some' e
    exact ⟨rfl, rfl, rfl⟩

theorem frz1_noptr {v w : AV} {h h' : Heap} {n n' : Nat} {lg : Log} (e : frz1 v h n = some (w, h', n', lg)) {i o : Nat} : w ≠ .ptr i o := by
  intro hw
  subst hw
  cases v with
  | sl id off len sz =>
    simp only [frz1] at e
    obtain ⟨o, _, _, _, _, _, f1⟩ := bind_some' e
    cases o with
    | map es => cases f1
    | cells cs =>
      obtain ⟨_, _, _, _, _, _, f2⟩ := bind_some' f1
      obtain ⟨_, _, _, _, _, _, f3⟩ := bind_some' f2
      cases (pure_some' f3).1
  | ptr id off =>
    simp only [frz1] at e
    obtain ⟨o, _, _, _, _, _, f1⟩ := bind_some' e
    cases o with
    | map es => cases f1
    | cells cs =>
      obtain ⟨_, _, _, _, _, _, f3⟩ := bind_some' f1
      cases (pure_some' f3).1
  | _ =>
    simp only [frz1] at e
    cases (pure_some' e).1

section
variable {call : Nat → List AV → AM AV} {P : Program} {A : Ann} {f nt : Nat}

theorem new_ptr {op : Op} {ev : Operand → Option AV} {h h' : Heap} {n n' : Nat} {lg : Log} {i o : Nat} (hb : isBox op = true) (e : opM P ev op h n = some (.ptr i o, h', n', lg)) : i = n ∧ n' = n + 1 := by
  have key : ∀ {cs : List AV} {h h' : Heap} {n n' : Nat} {lg : Log}, AM.bind (AM.new (.cells cs)) (fun id => AM.pure (AV.ptr id 0)) h n = some (.ptr i o, h', n', lg) → i = n ∧ n' = n + 1 := by
    intro cs h h' n n' lg e
    obtain ⟨_, _, _, _, _, e1, f1⟩ := bind_some' e
    simp only [AM.new, Option.some.injEq, Prod.mk.injEq] at e1
    obtain ⟨rfl, rfl, rfl, _⟩ := e1
    obtain ⟨e2, _, rfl⟩ := pure_some' f1
    cases e2
    exact ⟨rfl, rfl⟩
  cases op with
  | alloc t =>
    simp only [opM] at e
    obtain ⟨z, _, _, _, _, e1, f1⟩ := bind_some' e
    obtain ⟨_, rfl, rfl⟩ := lift_some' e1
    split at f1
    · exact key f1
    · cases f1
  | box t x =>
    simp only [opM] at e
    obtain ⟨z, _, _, _, _, e1, f1⟩ := bind_some' e
    obtain ⟨_, rfl, rfl⟩ := lift_some' e1
    split at f1
    · exact key f1
    · cases f1
  | _ => simp [isBox] at hb

theorem box_opV {o : Oper} {regs : Nat → AV} {h h' : Heap} {n n' : Nat} {lg : Log} {i off : Nat} (hb : isBox o.op = true) (e : opV call P A f o regs h n = some (.ptr i off, h', n', lg)) : n ≤ i ∧ i < n' := by
  have e' : opV call P A f o regs = (if roAt A f o.dst then shut (opM P (evalA A regs) o.op) else opM P (evalA A regs) o.op) := by
    unfold opV
    split
    · rename_i x args ts ho
      rw [ho] at hb
      cases hb
    · rfl
  rw [e'] at e
  cases hro : roAt A f o.dst with
  | true =>
    rw [hro] at e
    simp only [if_true] at e
    unfold shut at e
    obtain ⟨_, e2⟩ := hush_some e
    obtain ⟨_, _, _, _, _, _, f1⟩ := bind_some' e2
    exact absurd rfl (frz1_noptr f1)
  | false =>
    rw [hro] at e
    simp only [Bool.false_eq_true, if_false] at e
    obtain ⟨rfl, rfl⟩ := new_ptr hb e
    omega


theorem own_step (hc : ∀ g vs, Local (call g vs)) {ops : Array Oper} {o : Oper} {fr fr' : Fr} {h h' : Heap} {n n' : Nat} {lg : Log} (hf : Fresh h n) (e : stepA call P A f nt ops o fr h n = some (fr', h', n', lg)) : Own n n' fr.boxes fr'.boxes := by
  unfold stepA at e
  rcases hw : wantedA ops o fr.regs with _ | _ | _ <;> simp only [hw] at e
  · cases e
  rotate_left
  · obtain ⟨v, h1, n1, l1, _, e1, f1⟩ := bind_some' e
    obtain ⟨g1, rfl, rfl⟩ := lift_some' f1
    have st := (local_opV P A f hc o fr.regs h n _ _ _ _ hf e1).1
    unfold putA at g1
    split at g1
    · simp only [Option.some.injEq] at g1
      subst g1
      exact .same
    · rename_i d hd
      split at g1
      · simp only [Option.some.injEq] at g1
        subst g1
        simp only
        split
        · rename_i hb
          simp only [Bool.and_eq_true] at hb
          split
          · rename_i id off
            have := box_opV hb.1 e1
            intro x hx
            rcases List.mem_cons.1 hx with rfl | hx
            · exact .inr this
            · exact .inl hx
          · exact .same
        · exact .same
      · cases g1
  · obtain ⟨g1, rfl, rfl⟩ := lift_some' e
    split at g1
    · simp only [Option.some.injEq] at g1
      subst g1
      exact .same
    · split at g1
      · simp only [Option.some.injEq] at g1
        subst g1
        exact .same
      · cases g1

theorem own_runLog (hc : ∀ g vs, Local (call g vs)) {ops : Array Oper} : ∀ (l : List Oper) {fr fr' : Fr} {h h' : Heap} {n n' : Nat} {lgs : List LogN}, Fresh h n → runLog call P A f nt ops l fr h n = some (fr', h', n', lgs) → Own n n' fr.boxes fr'.boxes ∧ n ≤ n' ∧ Fresh h' n'
  | [], fr, fr', h, h', n, n', lgs, hf, e => by
    simp only [runLog, Option.some.injEq, Prod.mk.injEq] at e
    obtain ⟨rfl, rfl, rfl, _⟩ := e
    exact ⟨.refl, Nat.le_refl _, hf⟩
  | o :: l, fr, fr', h, h', n, n', lgs, hf, e => by
    unfold runLog at e
    split at e
    · cases e
    · rename_i fr1 h1 n1 lg e1
      have st := (local_stepA P A f nt hc ops o fr h n _ _ _ _ hf e1).1
      split at e
      · cases e
      · rename_i fr2 h2 n2 lgs2 e2
        simp only [Option.some.injEq, Prod.mk.injEq] at e
        obtain ⟨rfl, rfl, rfl, _⟩ := e
        obtain ⟨a, b, c⟩ := own_runLog hc l st.fresh e2
        exact ⟨(own_step hc hf e1).trans a st.le b, Nat.le_trans st.le b, c⟩

theorem own_runOps (hc : ∀ g vs, Local (call g vs)) {ops : Array Oper} : ∀ (l : List Oper) {fr fr' : Fr} {h h' : Heap} {n n' : Nat} {lg : Log}, Fresh h n → runOps call P A f nt ops l fr h n = some (fr', h', n', lg) → Own n n' fr.boxes fr'.boxes ∧ n ≤ n'
  | [], fr, fr', h, h', n, n', lg, hf, e => by
    obtain ⟨rfl, rfl, rfl⟩ := pure_some' e
    exact ⟨.refl, Nat.le_refl _⟩
  | o :: l, fr, fr', h, h', n, n', lg, hf, e => by
    unfold runOps at e
    obtain ⟨fr1, h1, n1, _, _, e1, f1⟩ := bind_some' e
    have st := (local_stepA P A f nt hc ops o fr h n _ _ _ _ hf e1).1
    obtain ⟨a, b⟩ := own_runOps hc l st.fresh f1
    exact ⟨(own_step hc hf e1).trans a st.le b, Nat.le_trans st.le b⟩

theorem own_loop {body : Fr → AM (AX × Fr)} (hl : ∀ fr, Local (body fr)) (H : ∀ fr x fr' h h' n n' lg, Fresh h n → body fr h n = some ((x, fr'), h', n', lg) → Own n n' fr.boxes fr'.boxes) : ∀ (k : Nat) {fr fr' : Fr} {x : AX} {h h' : Heap} {n n' : Nat} {lg : Log}, Fresh h n →
    loopN body k fr h n = some ((x, fr'), h', n', lg) → Own n n' fr.boxes fr'.boxes ∧ n ≤ n'
  | 0, _, _, _, _, _, _, _, _, _, e => by cases e
  | k + 1, fr, fr', x, h, h', n, n', lg, hf, e => by
    unfold loopN at e
    obtain ⟨⟨x1, fr1⟩, h1, n1, _, _, e1, f1⟩ := bind_some' e
    have st := (hl fr h n _ _ _ _ hf e1).1
    have o1 := H _ _ _ _ _ _ _ _ hf e1
    cases x1 with
    | norm =>
      obtain ⟨a, b⟩ := own_loop hl H k st.fresh f1
      exact ⟨o1.trans a st.le b, Nat.le_trans st.le b⟩
    | exit i =>
      obtain ⟨e2, rfl, rfl⟩ := pure_some' f1
      cases e2
      exact ⟨o1, st.le⟩
    | ret =>
      obtain ⟨e2, rfl, rfl⟩ := pure_some' f1
      cases e2
      exact ⟨o1, st.le⟩

theorem own_exec (hc : ∀ g vs, Local (call g vs)) (k : Nat) : ∀ (c : Code) {fr fr' : Fr} {x : AX} {h h' : Heap} {n n' : Nat} {lg : Log}, Fresh h n → exec call P A f nt k c fr h n = some ((x, fr'), h', n', lg) → Own n n' fr.boxes fr'.boxes ∧ n ≤ n' := by
  intro c
  induction c with
  | skip => intro fr fr' x h h' n n' lg hf e; obtain ⟨e2, rfl, rfl⟩ := pure_some' e; cases e2; exact ⟨.refl, Nat.le_refl _⟩
  | exit i => intro fr fr' x h h' n n' lg hf e; obtain ⟨e2, rfl, rfl⟩ := pure_some' e; cases e2; exact ⟨.refl, Nat.le_refl _⟩
  | ret => intro fr fr' x h h' n n' lg hf e; obtain ⟨e2, rfl, rfl⟩ := pure_some' e; cases e2; exact ⟨.refl, Nat.le_refl _⟩
  | region i ops dr =>
    intro fr fr' x h h' n n' lg hf e
    simp only [exec] at e
    obtain ⟨fr1, h1, n1, _, _, e1, f1⟩ := bind_some' e
    obtain ⟨e2, rfl, rfl⟩ := pure_some' f1
    cases e2
    split at e1
    · unfold runDraw at e1
      split at e1
      · cases e1
      · rename_i fr2 h2 n2 lgs e3
        split at e1
        · simp only [Option.some.injEq, Prod.mk.injEq] at e1
          obtain ⟨rfl, rfl, rfl, _⟩ := e1
          obtain ⟨a, b, _⟩ := own_runLog hc _ hf e3
          exact ⟨a, b⟩
        · cases e1
    · exact own_runOps hc _ hf e1
  | seq a b iha ihb =>
    intro fr fr' x h h' n n' lg hf e
    simp only [exec] at e
    obtain ⟨⟨x1, fr1⟩, h1, n1, _, _, e1, f1⟩ := bind_some' e
    have st := (local_exec P A f nt hc k a fr h n _ _ _ _ hf e1).1
    obtain ⟨o1, l1⟩ := iha hf e1
    cases x1 with
    | norm =>
      obtain ⟨o2, l2⟩ := ihb st.fresh f1
      exact ⟨o1.trans o2 l1 l2, Nat.le_trans l1 l2⟩
    | exit i =>
      obtain ⟨e2, rfl, rfl⟩ := pure_some' f1
      cases e2
      exact ⟨o1, l1⟩
    | ret =>
      obtain ⟨e2, rfl, rfl⟩ := pure_some' f1
      cases e2
      exact ⟨o1, l1⟩
  | cond c a b iha ihb =>
    intro fr fr' x h h' n n' lg hf e
    simp only [exec] at e
    obtain ⟨m, hm⟩ : ∃ m, m = evalA A fr.regs c := ⟨_, rfl⟩
    rw [← hm] at e
    rcases m with _ | v
    · cases e
    · cases v with
      | bool b =>
        cases b with
        | true => exact iha hf e
        | false => exact ihb hf e
      | _ => cases e
  | block i b ih =>
    intro fr fr' x h h' n n' lg hf e
    simp only [exec] at e
    obtain ⟨⟨x1, fr1⟩, h1, n1, _, _, e1, f1⟩ := bind_some' e
    obtain ⟨e2, rfl, rfl⟩ := pure_some' f1
    cases e2
    exact ih hf e1
  | loop b ih =>
    intro fr fr' x h h' n n' lg hf e
    simp only [exec] at e
    exact own_loop (fun fr => local_exec P A f nt hc k b fr) (fun fr x fr' h h' n n' lg hf e => (ih hf e).1) k hf e
  | _ => intro fr fr' x h h' n n' lg hf e; simp only [exec] at e; cases e
end

/- a heap without a call's boxes -/
def killL (l : List Nat) (h : Heap) : Heap := fun id => if l.contains id = true then none else h id

theorem killL_nil {h : Heap} : killL [] h = h := by
  funext id
  simp [killL]

section
variable {P : Program} {A : Ann} {f nt : Nat}

/- a call, whatever it does -/
def HCallC (P : Program) (A : Ann) (g : Nat) (vs : List AV) (h : Heap) (Q : AV → Heap → Prop) : Prop := ∀ n, Fresh h n → ∃ k v h' n' lg, callN P A k g vs h n = some (v, h', n', lg) ∧ Q v h'

theorem PureC.call {g : Nat} {vs : List AV} {v : AV} (H : PureC P A g vs v) {h : Heap} : HCallC P A g vs h fun w h' => w = v ∧ h' = h := by
  intro n hn
  obtain ⟨k, n', e⟩ := H h n hn
  exact ⟨k, v, h, n', _, e, rfl, rfl⟩

/- the end of a function: what it hands over, its boxes gone; a tree that is handed over leaves no new objects behind -/
def hret (P : Program) (A : Ann) (f : Nat) (l : List ResultVar) (h : Heap) (Q : AV → Heap → Prop) : AX → Env → List Nat → Heap → Prop := fun x E bx h1 => match x with
  | .exit _ => False
  | _ => ∃ vs, resE E l = some vs ∧ A.fz f = false ∧ ((tupled vs).tree = true → ∀ id, h id = none → killL bx h1 id = none) ∧ Q (tupled vs) (killL bx h1)

theorem s_call_of {fn : Func} {sc : SC} {args : List AV} {h : Heap} {Q : AV → Heap → Prop} (hp : (A.pure f && AV.trees args) = false) (hf : P.funcs[f]? = some fn) (hb : fn.body.bind (slC P A f) = some sc) (hn : (fn.name == "runtime.NumGoroutine" || decide (fn.ntmps < args.length)) = false)
    (run : SRun P A f fn.ntmps sc (envOf 0 args) [] h (hret P A f fn.results.toList h Q)) : HCallC P A f args h Q := by
  obtain ⟨c, hcb, hsc⟩ := Option.bind_eq_some_iff.1 hb
  intro n hh
  have hsat : Sat (lk (envOf 0 args)) (initRegs args) := sat_envOf args 0 _ (fun j a hj => by simp [initRegs, List.getD_eq_getElem?_getD, hj])
  obtain ⟨k, x, fr', h1, n1, lg, e, E', hs', q⟩ := run c (initRegs args) hsc hsat n hh
  have hcl : ∀ g vs, Local (callN P A k g vs) := fun g vs => local_callN P A k g vs
  have st := (local_exec P A f fn.ntmps hcl k c _ h n _ h1 n1 lg hh e).1
  obtain ⟨own, hle⟩ := own_exec hcl k c hh e
  have hx : (∀ i, x ≠ .exit i) ∧ ∃ vs, resE E' fn.results.toList = some vs ∧ A.fz f = false ∧ ((tupled vs).tree = true → ∀ id, h id = none → killL fr'.boxes h1 id = none) ∧ Q (tupled vs) (killL fr'.boxes h1) := by
    cases x with
    | exit i => exact q.elim
    | norm => exact ⟨by simp, q⟩
    | ret => exact ⟨by simp, q⟩
  obtain ⟨hx1, vs, hvs, hfz, htr, hq⟩ := hx
  have hbody : body (callN P A k) P A k f args h n = some ((tupled vs, fr'.boxes), h1, n1, (lg.1 ++ [], lg.2 ++ [])) := by
    unfold body
    simp only [hf, hcb, hn, Bool.false_eq_true, if_false]
    refine bind_run (l2 := ([], [])) e ?_
    cases x with
    | exit i => exact absurd rfl (hx1 i)
    | norm => simp only [resE_eq hs' hvs, hfz, Bool.false_eq_true, if_false, pure_bind]; rfl
    | ret => simp only [resE_eq hs' hvs, hfz, Bool.false_eq_true, if_false, pure_bind]; rfl
  have hfree : freeBoxes n n1 h1 fr'.boxes = killL fr'.boxes h1 := by
    funext id
    unfold freeBoxes killL
    by_cases hb : fr'.boxes.contains id = true
    · have := own id (by simpa using hb)
      simp only [List.not_mem_nil, false_or] at this
      rw [if_pos ⟨this.1, this.2, hb⟩, if_pos hb]
    · rw [if_neg (fun h => hb h.2.2), if_neg hb]
  by_cases hfin : (A.still f && (tupled vs).tree && ((lg.2 ++ []).filter (· < n)).isEmpty) = true
  · refine ⟨k + 1, tupled vs, h, n1, ((lg.1 ++ []).filter (· < n), []), ?_, ?_⟩
    · unfold callN
      rw [hp]
      simp only [Bool.false_eq_true, if_false]
      unfold callO
      rw [hbody]
      simp only [finish]
      rw [if_pos hfin]
    · simp only [Bool.and_eq_true] at hfin
      have heq : killL fr'.boxes h1 = h := by
        funext id
        by_cases hn' : h id = none
        · rw [htr hfin.1.2 id hn', hn']
        · have hlt : id < n := by
            rcases Nat.lt_or_ge id n with hlt | hge
            · exact hlt
            · exact absurd (hh id hge) hn'
          have hnw : id ∉ lg.2 := by
            intro hid
            have : id ∈ (lg.2 ++ []).filter (· < n) := List.mem_filter.2 ⟨by simpa using hid, by simpa using hlt⟩
            rw [List.isEmpty_iff.1 hfin.2] at this
            cases this
          have hnb : ¬(fr'.boxes.contains id = true) := by
            intro hb
            have := own id (by simpa using hb)
            simp only [List.not_mem_nil, false_or] at this
            omega
          unfold killL
          rw [if_neg hnb]
          exact st.same id hnw (by omega)
      rw [← heq]
      exact hq
  · refine ⟨k + 1, tupled vs, killL fr'.boxes h1, n1, ((lg.1 ++ []).filter (· < n), (lg.2 ++ []).filter (· < n)), ?_, hq⟩
    unfold callN
    rw [hp]
    simp only [Bool.false_eq_true, if_false]
    unfold callO
    rw [hbody]
    simp only [finish]
    rw [if_neg hfin, hfree]

variable {E : Env} {bx : List Nat} {h : Heap} {Q : AX → Env → List Nat → Heap → Prop} {h0 : Heap} {q : Nat}

theorem call_inv {o : Oper} {x : SX} {args : List SX} (hk : slK P A (roAt A f o.dst) o.op = some (.call x args)) : ∃ x0 a0 ts, o.op = .call { callee := .value x0, args := a0, argTypes := ts } ∧ slX A x0 = some x ∧ slXs A a0.toList = some args := by
  generalize hop : o.op = op at hk
  cases op with
  | call c =>
    obtain ⟨callee, a0, ts⟩ := c
    cases callee with
    | value x0 =>
      simp only [slK] at hk
      split at hk
      · rename_i y a h3 h4
        simp only [Option.some.injEq, SK.call.injEq] at hk
        obtain ⟨rfl, rfl⟩ := hk
        exact ⟨x0, a0, ts, rfl, h3, h4⟩
      · cases hk
    | builtin b =>
      exfalso
      cases b <;> simp only [slK] at hk <;> repeat' (first | (cases hk; done) | (obtain ⟨_, _, h⟩ := omap hk; cases h; done) | (split at hk))
    | _ => simp [slK] at hk
  | slice t x lo hi mx =>
    exfalso
    cases mx <;> simp only [slK] at hk <;> repeat' (first | (cases hk; done) | (obtain ⟨_, _, h⟩ := omap hk; cases h; done) | (split at hk))
  | _ =>
    exfalso
    simp only [slK] at hk
    repeat' (first | (cases hk; done) | (obtain ⟨_, _, h⟩ := omap hk; cases h; done) | (split at hk))

/- a call that may write -/
theorem o_hcall {dst : Option Nat} {x : SX} {args : List SX} {r : List SO} {g : Nat} {first cap vs : List AV} {Q1 : AV → Heap → Prop} (hq : q = 0) (hd : dstOk' nt dst = true) (hx : ev (lk E) x = some (.fn g first cap)) (ha : evS (lk E) args = some vs)
    (hc : HCallC P A g (first ++ vs ++ cap) h Q1) (H : ∀ v h1, Q1 v h1 → SOps P A f nt h0 0 r (putE dst v E) bx h1 Q) : SOps P A f nt h0 q (⟨dst, none, .call x args⟩ :: r) E bx h Q := by
  subst hq
  refine o_heap (Q1 := Q1) ?_ ?_
  · intro o rg hdd e hs
    obtain ⟨x0, a0, ts, ho, hx0, ha0⟩ := call_inv (getD_raw e rfl)
    intro n hn
    obtain ⟨k, v, h', n', lg, e1, q1⟩ := hc n hn
    refine ⟨k, v, h', n', ([] ++ lg.1, [] ++ lg.2), ?_, quiet_zero, q1⟩
    unfold opV
    rw [ho]
    simp only [ev_sound hs hx0 hx, slXs_sound hs ha0 ha]
    exact bind_run (l1 := ([], [])) rfl e1
  · intro v h1 o rg hdd e hv
    obtain ⟨x0, a0, ts, ho, _⟩ := call_inv (getD_raw e rfl)
    exact ⟨bx, put_nb hdd hd (by rw [ho]; rfl), H v h1 hv⟩

theorem bounds_of {rg : Nat → AV} (hs : Sat (lk E) rg) {lo0 hi0 : Option Operand} {lo hi : Option SX} {n : Nat} {l m : Int} (h1 : slOpt A lo0 = some lo) (h2 : slOpt A hi0 = some hi) (hlo : evI (lk E) 0 lo = some l) (hhi : evI (lk E) n hi = some m) (b1 : 0 ≤ l) (b2 : l ≤ m) (b3 : m ≤ n) :
    ∃ a b, evo (evalA A rg) lo0 = some a ∧ evo (evalA A rg) hi0 = some b ∧ boundsA n a b = some (l.toNat, m.toNat) := by
  have lo' : (lo0 = none ∧ l = 0) ∨ ∃ x k, lo0 = some x ∧ evalA A rg x = some (.int k l) := by
    cases lo0 with
    | none =>
      simp only [slOpt, Option.some.injEq] at h1
      subst h1
      simp only [evI, Option.some.injEq] at hlo
      exact .inl ⟨rfl, hlo.symm⟩
    | some x =>
      obtain ⟨y, hy, rfl⟩ := omap h1
      simp only [evI] at hlo
      split at hlo
      · rename_i k z hz
        simp only [Option.some.injEq] at hlo
        subst hlo
        exact .inr ⟨x, k, rfl, ev_sound hs hy hz⟩
      · cases hlo
  have hi' : (hi0 = none ∧ m = n) ∨ ∃ x k, hi0 = some x ∧ evalA A rg x = some (.int k m) := by
    cases hi0 with
    | none =>
      simp only [slOpt, Option.some.injEq] at h2
      subst h2
      simp only [evI, Option.some.injEq] at hhi
      exact .inl ⟨rfl, hhi.symm⟩
    | some x =>
      obtain ⟨y, hy, rfl⟩ := omap h2
      simp only [evI] at hhi
      split at hhi
      · rename_i k z hz
        simp only [Option.some.injEq] at hhi
        subst hhi
        exact .inr ⟨x, k, rfl, ev_sound hs hy hz⟩
      · cases hhi
  rcases lo' with ⟨rfl, rfl⟩ | ⟨x, k, rfl, ex⟩ <;> rcases hi' with ⟨rfl, rfl⟩ | ⟨y, k', rfl, ey⟩
  · exact ⟨none, none, rfl, rfl, by simp [boundsA]⟩
  · refine ⟨none, some (.int k' m), rfl, by simp [evo, ey], ?_⟩
    simp only [boundsA, intIx]
    rw [if_pos ⟨b2, b3⟩]
    rfl
  · refine ⟨some (.int k l), none, by simp [evo, ex], rfl, ?_⟩
    simp only [boundsA, intIx]
    rw [if_pos ⟨b1, b2⟩]
    simp
  · refine ⟨some (.int k l), some (.int k' m), by simp [evo, ex], by simp [evo, ey], ?_⟩
    simp only [boundsA, intIx]
    rw [if_pos ⟨by omega, b3⟩]
    simp [b1, b2]

/- a slice of an array that is an object -/
theorem o_sla {d n s : Nat} {x : SX} {lo hi : Option SX} {r : List SO} {id off : Nat} {cs : List AV} {l m : Int} (hlt : (decide (d < nt)) = true) (hx : ev (lk E) x = some (.ptr id off)) (hid : h id = some (.cells cs)) (h0id : 0 < q → h0 id ≠ none) (hsz : off + n * s ≤ cs.length)
    (hlo : evI (lk E) 0 lo = some l) (hhi : evI (lk E) n hi = some m) (b1 : 0 ≤ l) (b2 : l ≤ m) (b3 : m ≤ n)
    (H : SOps P A f nt h0 (q - 1) r ((d, .sl id (off + l.toNat * s) (m.toNat - l.toNat) s) :: E) bx h Q) : SOps P A f nt h0 q (⟨some d, none, .sla x n lo hi s⟩ :: r) E bx h Q := by
  refine o_heap (Q1 := fun w h1 => w = .sl id (off + l.toNat * s) (m.toNat - l.toNat) s ∧ h1 = h) ?_ ?_
  · intro o rg hd e hs
    obtain ⟨t, x0, lo0, hi0, e', hop, ht, hse, hx0, hlo0, hhi0, hro⟩ := slH_inv (getH e rfl (by simp))
    obtain ⟨a, b, ea, eb, eab⟩ := bounds_of hs hlo0 hhi0 hlo hhi b1 b2 b3
    refine hop_of (by simp [hop]) hro (fun n' hn => ?_)
    refine ⟨_, h, n', ([id], []), ?_, fun hq => ⟨rfl, by simpa using h0id hq⟩, rfl, rfl⟩
    rw [hop]
    simp only [opM, ev_sound hs hx0 hx, ea, eb, lift_some_eq, pure_bind, sliceA, ht]
    simp only [AM.bind, AM.get, hid, hse, eab]
    rw [if_pos hsz]
    rfl
  · rintro w h1 o rg hd e ⟨rfl, rfl⟩
    obtain ⟨t, x0, lo0, hi0, e', hop, _⟩ := slH_inv (getH e rfl (by simp))
    exact ⟨bx, put_nb hd (by simpa [dstOk'] using hlt) (by rw [hop]; rfl), H⟩

theorem b2s_inv {o : Oper} {x : SX} (hk : slK P A (roAt A f o.dst) o.op = some (.b2s x)) : ∃ s d x0 e, o.op = .convert s d x0 ∧ slX A x0 = some x ∧ P.underlying s = some (.slice e) ∧ P.underlying d = some .string ∧ isByteT P e = true ∧ roAt A f o.dst = false := by
  generalize hop : o.op = op at hk
  cases op with
  | convert s d x0 =>
    simp only [slK] at hk
    split at hk
    · cases hk
    · rename_i hro
      split at hk
      · cases hk
      · cases hk
      · rename_i y e q1 q2 q3
        split at hk
        · rename_i q4
          simp only [Option.some.injEq, SK.b2s.injEq] at hk
          subst hk
          exact ⟨s, d, x0, e, rfl, q1, q2, q3, q4, by simpa using hro⟩
        · cases hk
      · cases hk
  | call c =>
    exfalso
    obtain ⟨callee, a0, ts⟩ := c
    cases callee with
    | builtin b => cases b <;> simp only [slK] at hk <;> repeat' (first | (cases hk; done) | (obtain ⟨_, _, h⟩ := omap hk; cases h; done) | (split at hk))
    | _ =>
      simp only [slK] at hk
      repeat' (first | (cases hk; done) | (split at hk))
  | slice t x lo hi mx =>
    exfalso
    cases mx <;> simp only [slK] at hk <;> repeat' (first | (cases hk; done) | (obtain ⟨_, _, h⟩ := omap hk; cases h; done) | (split at hk))
  | _ =>
    exfalso
    simp only [slK] at hk
    repeat' (first | (cases hk; done) | (obtain ⟨_, _, h⟩ := omap hk; cases h; done) | (split at hk))

/- bytes of an object as a text -/
theorem o_b2sh {d : Nat} {x : SX} {r : List SO} {id off len : Nat} {cs l : List AV} {c : List UInt8} (hlt : (decide (d < nt)) = true) (hx : ev (lk E) x = some (.sl id off len 1)) (hid : h id = some (.cells cs)) (h0id : 0 < q → h0 id ≠ none) (hl : sliceL cs off len = some l) (hc : bytesOfA l = some c)
    (H : SOps P A f nt h0 (q - 1) r ((d, .str c) :: E) bx h Q) : SOps P A f nt h0 q (⟨some d, none, .b2s x⟩ :: r) E bx h Q := by
  refine o_heap (Q1 := fun w h1 => w = .str c ∧ h1 = h) ?_ ?_
  · intro o rg hd e hs
    obtain ⟨s, dt, x0, e', hop, hx0, hs1, hd1, hb, hro⟩ := b2s_inv (getD_raw e rfl)
    refine hop_of (by simp [hop]) hro (fun n' hn => ?_)
    refine ⟨_, h, n', ([id], []), ?_, fun hq => ⟨rfl, by simpa using h0id hq⟩, rfl, rfl⟩
    rw [hop]
    simp only [opM, ev_sound hs hx0 hx, lift_some_eq, pure_bind, convertA, hs1, hd1]
    rw [if_pos ⟨trivial, hb⟩]
    simp only [AM.bind, cellsAt, AM.get, hid, AM.lift, hl, hc, Option.map_some, AM.pure]
    rfl
  · rintro w h1 o rg hd e ⟨rfl, rfl⟩
    obtain ⟨s, dt, x0, e', hop, _⟩ := b2s_inv (getD_raw e rfl)
    exact ⟨bx, put_nb hd (by simpa [dstOk'] using hlt) (by rw [hop]; rfl), H⟩

end
end Go.Abs
