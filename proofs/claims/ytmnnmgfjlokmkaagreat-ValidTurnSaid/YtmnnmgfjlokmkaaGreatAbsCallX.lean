import Derived.Test.YtmnnmgfjlokmkaaGreatAbsView
namespace Go.Abs
section
variable {P : Program} {A : Ann} {f nt : Nat}
def hretx (_P : Program) (A : Ann) (f : Nat) (l : List ResultVar) (h : Heap) (Q : AV → Heap → Prop) : AX → Env → List Nat → Heap → Prop := fun x E bx h1 => match x with
 | .exit _ => False
 | _ => ∃ vs, resE E l = some vs ∧ A.fz f = false ∧ Q (tupled vs) (killL bx h1) ∧ ((tupled vs).tree = true → Q (tupled vs) h ∨ ∃ id, h id ≠ none ∧ h1 id ≠ h id)
theorem s_call_x {fn : Func} {sc : SC} {args : List AV} {h : Heap} {Q : AV → Heap → Prop} (hp : (A.pure f && AV.trees args) = false) (hf : P.funcs[f]? = some fn) (hb : fn.body.bind (slC P A f) = some sc) (hn : (fn.name == "runtime.NumGoroutine" || decide (fn.ntmps < args.length)) = false)
  (run : SRun P A f fn.ntmps sc (envOf 0 args) [] h (hretx P A f fn.results.toList h Q)) : HCallC P A f args h Q := by
 obtain ⟨c, hcb, hsc⟩ := Option.bind_eq_some_iff.1 hb
 intro n hh
 have hsat : Sat (lk (envOf 0 args)) (initRegs args) := sat_envOf args 0 _ (fun j a hj => by simp [initRegs, List.getD_eq_getElem?_getD, hj])
 obtain ⟨k, x, fr', h1, n1, lg, e, E', hs', q⟩ := run c (initRegs args) hsc hsat n hh
 have hcl : ∀ g vs, Local (callN P A k g vs) := fun g vs => local_callN P A k g vs
 have st := (local_exec P A f fn.ntmps hcl k c _ h n _ h1 n1 lg hh e).1
 obtain ⟨own, hle⟩ := own_exec hcl k c hh e
 have hx : (∀ i, x ≠ .exit i) ∧ ∃ vs, resE E' fn.results.toList = some vs ∧ A.fz f = false ∧ Q (tupled vs) (killL fr'.boxes h1) ∧ ((tupled vs).tree = true → Q (tupled vs) h ∨ ∃ id, h id ≠ none ∧ h1 id ≠ h id) := by
  cases x with
  | exit i => exact q.elim
  | norm => exact ⟨by simp, q⟩
  | ret => exact ⟨by simp, q⟩
 obtain ⟨hx1, vs, hvs, hfz, hq, htr⟩ := hx
 have hbody : body (callN P A k) P A k f args h n = some ((tupled vs, fr'.boxes), h1, n1, (lg.1 ++ [], lg.2 ++ [])) := by
  unfold body
  simp only [hf, hcb, hn, Bool.false_eq_true, if_false]
  refine bind_run (l2 := ([], [])) e ?_
  cases x with
  | exit i => exact absurd rfl (hx1 i)
  | norm => simp only [resE_eq hs' hvs, hfz, Bool.false_eq_true, if_false, pure_bind]; rfl
  | ret => simp only [resE_eq hs' hvs, hfz, Bool.false_eq_true, if_false, pure_bind]; rfl
 have hfree : freeBoxes n n1 h1 fr'.boxes = killL fr'.boxes h1 := by
  funext id
  unfold freeBoxes killL
  by_cases hb : fr'.boxes.contains id = true
  ·have := own id (by simpa using hb)
   simp only [List.not_mem_nil, false_or] at this
   rw [if_pos ⟨this.1, this.2, hb⟩, if_pos hb]
  ·rw [if_neg (fun h => hb h.2.2), if_neg hb]
 by_cases hfin : (A.still f && (tupled vs).tree && ((lg.2 ++ []).filter (· < n)).isEmpty) = true
 ·refine ⟨k + 1, tupled vs, h, n1, ((lg.1 ++ []).filter (· < n), []), ?_, ?_⟩
  ·unfold callN
   rw [hp]
   simp only [Bool.false_eq_true, if_false]
   unfold callO
   rw [hbody]
   simp only [finish]
   rw [if_pos hfin]
  ·simp only [Bool.and_eq_true] at hfin
   rcases htr hfin.1.2 with hQ | ⟨id, hid, hne⟩
   ·exact hQ
   ·exfalso
    apply hne
    have hlt : id < n := by
     rcases Nat.lt_or_ge id n with hlt | hge
     ·exact hlt
     ·exact absurd (hh id hge) hid
    refine st.same id ?_ (by omega)
    intro hm
    have : id ∈ (lg.2 ++ []).filter (· < n) := List.mem_filter.2 ⟨by simpa using hm, by simpa using hlt⟩
    rw [List.isEmpty_iff.1 hfin.2] at this
    cases this
 ·refine ⟨k + 1, tupled vs, killL fr'.boxes h1, n1, ((lg.1 ++ []).filter (· < n), (lg.2 ++ []).filter (· < n)), ?_, hq⟩
  unfold callN
  rw [hp]
  simp only [Bool.false_eq_true, if_false]
  unfold callO
  rw [hbody]
  simp only [finish]
  rw [if_neg hfin, hfree]
def hretR (P : Program) (A : Ann) (f : Nat) (l : List ResultVar) (h : Heap) (Q : AV → Heap → Prop) : AX → Env → List Nat → Heap → Prop := fun x E bx h1 => match x with
 | .exit _ => False
 | _ => ∃ vs, ResR P E h1 l vs ∧ A.fz f = false ∧ Q (tupled vs) (killL bx h1) ∧ ((tupled vs).tree = true → Q (tupled vs) h ∨ ∃ id, h id ≠ none ∧ h1 id ≠ h id)
theorem hR_ret {l : List ResultVar} {h h1 : Heap} {Q : AV → Heap → Prop} {E : Env} {bx : List Nat} {vs : List AV} (e1 : ResR P E h1 l vs) (e2 : A.fz f = false) (e3 : Q (tupled vs) (killL bx h1)) (e4 : (tupled vs).tree = true → Q (tupled vs) h ∨ ∃ id, h id ≠ none ∧ h1 id ≠ h id) : hretR P A f l h Q .ret E bx h1 := ⟨vs, e1, e2, e3, e4⟩
theorem s_call_R {fn : Func} {sc : SC} {args : List AV} {h : Heap} {Q : AV → Heap → Prop} (hp : (A.pure f && AV.trees args) = false) (hf : P.funcs[f]? = some fn) (hb : fn.body.bind (slC P A f) = some sc) (hn : (fn.name == "runtime.NumGoroutine" || decide (fn.ntmps < args.length)) = false)
  (run : SRun P A f fn.ntmps sc (envOf 0 args) [] h (hretR P A f fn.results.toList h Q)) : HCallC P A f args h Q := by
 obtain ⟨c, hcb, hsc⟩ := Option.bind_eq_some_iff.1 hb
 intro n hh
 have hsat : Sat (lk (envOf 0 args)) (initRegs args) := sat_envOf args 0 _ (fun j a hj => by simp [initRegs, List.getD_eq_getElem?_getD, hj])
 obtain ⟨k, x, fr', h1, n1, lg, e, E', hs', q⟩ := run c (initRegs args) hsc hsat n hh
 have hcl : ∀ g vs, Local (callN P A k g vs) := fun g vs => local_callN P A k g vs
 have st := (local_exec P A f fn.ntmps hcl k c _ h n _ h1 n1 lg hh e).1
 obtain ⟨own, hle⟩ := own_exec hcl k c hh e
 have hx : (∀ i, x ≠ .exit i) ∧ ∃ vs, ResR P E' h1 fn.results.toList vs ∧ A.fz f = false ∧ Q (tupled vs) (killL fr'.boxes h1) ∧ ((tupled vs).tree = true → Q (tupled vs) h ∨ ∃ id, h id ≠ none ∧ h1 id ≠ h id) := by
  cases x with
  | exit i => exact q.elim
  | norm => exact ⟨by simp, q⟩
  | ret => exact ⟨by simp, q⟩
 obtain ⟨hx1, vs, hvs, hfz, hq, htr⟩ := hx
 obtain ⟨rd, er⟩ := hvs.run hs' n1
 have hbody : body (callN P A k) P A k f args h n = some ((tupled vs, fr'.boxes), h1, n1, (lg.1 ++ (rd ++ []), lg.2 ++ [])) := by
  unfold body
  simp only [hf, hcb, hn, Bool.false_eq_true, if_false]
  have e2 := bind_run (f := fun vs => AM.bind (if A.fz f then freezeV 1000 (tupled vs) else AM.pure (tupled vs)) fun v => AM.pure (v, fr'.boxes)) (l2 := ([], [])) (b := (tupled vs, fr'.boxes)) (h2 := h1) (n2 := n1) er (by simp only [hfz, Bool.false_eq_true, if_false, pure_bind]; rfl)
  refine (bind_run (l2 := (rd ++ [], [])) (b := (tupled vs, fr'.boxes)) (h2 := h1) (n2 := n1) e ?_)
  cases x with
  | exit i => exact absurd rfl (hx1 i)
  | norm => exact e2
  | ret => exact e2
 have hfree : freeBoxes n n1 h1 fr'.boxes = killL fr'.boxes h1 := by
  funext id
  unfold freeBoxes killL
  by_cases hb : fr'.boxes.contains id = true
  ·have := own id (by simpa using hb)
   simp only [List.not_mem_nil, false_or] at this
   rw [if_pos ⟨this.1, this.2, hb⟩, if_pos hb]
  ·rw [if_neg (fun h => hb h.2.2), if_neg hb]
 by_cases hfin : (A.still f && (tupled vs).tree && ((lg.2 ++ []).filter (· < n)).isEmpty) = true
 ·refine ⟨k + 1, tupled vs, h, n1, ((lg.1 ++ (rd ++ [])).filter (· < n), []), ?_, ?_⟩
  ·unfold callN
   rw [hp]
   simp only [Bool.false_eq_true, if_false]
   unfold callO
   rw [hbody]
   simp only [finish]
   rw [if_pos hfin]
  ·simp only [Bool.and_eq_true] at hfin
   rcases htr hfin.1.2 with hQ | ⟨id, hid, hne⟩
   ·exact hQ
   ·exfalso
    apply hne
    have hlt : id < n := by
     rcases Nat.lt_or_ge id n with hlt | hge
     ·exact hlt
     ·exact absurd (hh id hge) hid
    refine st.same id ?_ (by omega)
    intro hm
    have : id ∈ (lg.2 ++ []).filter (· < n) := List.mem_filter.2 ⟨by simpa using hm, by simpa using hlt⟩
    rw [List.isEmpty_iff.1 hfin.2] at this
    cases this
 ·refine ⟨k + 1, tupled vs, killL fr'.boxes h1, n1, ((lg.1 ++ (rd ++ [])).filter (· < n), (lg.2 ++ []).filter (· < n)), ?_, hq⟩
  unfold callN
  rw [hp]
  simp only [Bool.false_eq_true, if_false]
  unfold callO
  rw [hbody]
  simp only [finish]
  rw [if_neg hfin, hfree]
theorem Ext.kill {h h1 : Heap} {bx : List Nat} (hx : Ext h h1) (hb : ∀ i ∈ bx, h i = none) : Ext h (killL bx h1) := by
 intro id o e
 unfold killL
 rw [if_neg]
 ·exact hx id o e
 ·intro hc
  rw [hb id (by simpa using hc)] at e
  cases e
def Looks (P : Program) (A : Ann) (g : Nat) (vs : List AV) (h : Heap) (v : AV) : Prop := HCallC P A g vs h fun w h' => w = v ∧ Ext h h'
theorem Looks.go {g : Nat} {vs : List AV} {h : Heap} {v : AV} (H : Looks P A g vs h v) : HCallC P A g vs h fun w h' => w = v ∧ Ext h h' := H
theorem PureC.looks {g : Nat} {vs : List AV} {v : AV} (H : PureC P A g vs v) {h : Heap} : Looks P A g vs h v := by
 intro n hn
 obtain ⟨k, n', e⟩ := H h n hn
 exact ⟨k, v, h, n', _, e, rfl, .refl⟩
theorem HCallC.mono {g : Nat} {vs : List AV} {h : Heap} {Q Q' : AV → Heap → Prop} (H : HCallC P A g vs h Q) (hq : ∀ v h', Q v h' → Q' v h') : HCallC P A g vs h Q' := by
 intro n hn
 obtain ⟨k, v, h', n', lg, e, q⟩ := H n hn
 exact ⟨k, v, h', n', lg, e, hq _ _ q⟩
def lret (_P : Program) (A : Ann) (f : Nat) (l : List ResultVar) (h : Heap) (v : AV) : AX → Env → List Nat → Heap → Prop := fun x E bx h1 => match x with
 | .exit _ => False
 | _ => ∃ vs, resE E l = some vs ∧ A.fz f = false ∧ tupled vs = v ∧ Ext h h1 ∧ ∀ i ∈ bx, h i = none
theorem lret_ret {l : List ResultVar} {h h1 : Heap} {v : AV} {E : Env} {bx : List Nat} {vs : List AV} (e1 : resE E l = some vs) (e2 : A.fz f = false) (e3 : tupled vs = v) (e4 : Ext h h1) (e5 : ∀ i ∈ bx, h i = none) : lret P A f l h v .ret E bx h1 := ⟨vs, e1, e2, e3, e4, e5⟩
theorem lret_norm {l : List ResultVar} {h h1 : Heap} {v : AV} {E : Env} {bx : List Nat} {vs : List AV} (e1 : resE E l = some vs) (e2 : A.fz f = false) (e3 : tupled vs = v) (e4 : Ext h h1) (e5 : ∀ i ∈ bx, h i = none) : lret P A f l h v .norm E bx h1 := ⟨vs, e1, e2, e3, e4, e5⟩
theorem hx_ret {l : List ResultVar} {h h1 : Heap} {Q : AV → Heap → Prop} {E : Env} {bx : List Nat} {vs : List AV} (e1 : resE E l = some vs) (e2 : A.fz f = false) (e3 : Q (tupled vs) (killL bx h1)) (e4 : (tupled vs).tree = true → Q (tupled vs) h ∨ ∃ id, h id ≠ none ∧ h1 id ≠ h id) : hretx P A f l h Q .ret E bx h1 := ⟨vs, e1, e2, e3, e4⟩
theorem hx_norm {l : List ResultVar} {h h1 : Heap} {Q : AV → Heap → Prop} {E : Env} {bx : List Nat} {vs : List AV} (e1 : resE E l = some vs) (e2 : A.fz f = false) (e3 : Q (tupled vs) (killL bx h1)) (e4 : (tupled vs).tree = true → Q (tupled vs) h ∨ ∃ id, h id ≠ none ∧ h1 id ≠ h id) : hretx P A f l h Q .norm E bx h1 := ⟨vs, e1, e2, e3, e4⟩
theorem s_look_of {fn : Func} {sc : SC} {args : List AV} {h : Heap} {v : AV} (hp : (A.pure f && AV.trees args) = false) (hf : P.funcs[f]? = some fn) (hb : fn.body.bind (slC P A f) = some sc) (hn : (fn.name == "runtime.NumGoroutine" || decide (fn.ntmps < args.length)) = false)
  (run : SRun P A f fn.ntmps sc (envOf 0 args) [] h (lret P A f fn.results.toList h v)) : Looks P A f args h v := by
 refine s_call_x hp hf hb hn ?_
 intro c0 rg hc hs
 refine (run c0 rg hc hs).mono ?_
 rintro x fr h' ⟨E, hs, H⟩
 refine ⟨E, hs, ?_⟩
 cases x with
 | exit i => exact H
 | norm =>
  obtain ⟨vs, h1, h2, h3, h4, h5⟩ := H
  exact ⟨vs, h1, h2, ⟨h3, h4.kill h5⟩, fun _ => .inl ⟨h3, .refl⟩⟩
 | ret =>
  obtain ⟨vs, h1, h2, h3, h4, h5⟩ := H
  exact ⟨vs, h1, h2, ⟨h3, h4.kill h5⟩, fun _ => .inl ⟨h3, .refl⟩⟩
end
end Go.Abs
