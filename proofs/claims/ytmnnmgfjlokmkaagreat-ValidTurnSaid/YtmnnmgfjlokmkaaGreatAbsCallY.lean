import Derived.Test.YtmnnmgfjlokmkaaGreatAbsOwn
namespace Go.Abs
section
variable {P : Program} {A : Ann} {f nt : Nat}
def hretY (P : Program) (A : Ann) (f : Nat) (l : List ResultVar) (Q : AV → Heap → Prop) : AX → Env → List Nat → Heap → Prop := fun x E bx h1 => match x with
 | .exit _ => False
 | _ => ∃ vs, ResR P E h1 l vs ∧ A.fz f = false ∧ Q (tupled vs) (killL bx h1)
theorem hY_ret {l : List ResultVar} {h1 : Heap} {Q : AV → Heap → Prop} {E : Env} {bx : List Nat} {vs : List AV} (e1 : ResR P E h1 l vs) (e2 : A.fz f = false) (e3 : Q (tupled vs) (killL bx h1)) : hretY P A f l Q .ret E bx h1 := ⟨vs, e1, e2, e3⟩
theorem s_call_Y (hst : A.still f = false) {fn : Func} {sc : SC} {args : List AV} {h : Heap} {Q : AV → Heap → Prop} (hp : (A.pure f && AV.trees args) = false) (hf : P.funcs[f]? = some fn) (hb : fn.body.bind (slC P A f) = some sc) (hn : (fn.name == "runtime.NumGoroutine" || decide (fn.ntmps < args.length)) = false)
  (run : SRun P A f fn.ntmps sc (envOf 0 args) [] h (hretY P A f fn.results.toList Q)) : HCallC P A f args h Q := by
 obtain ⟨c, hcb, hsc⟩ := Option.bind_eq_some_iff.1 hb
 intro n hh
 have hsat : Sat (lk (envOf 0 args)) (initRegs args) := sat_envOf args 0 _ (fun j a hj => by simp [initRegs, List.getD_eq_getElem?_getD, hj])
 obtain ⟨k, x, fr', h1, n1, lg, e, E', hs', q⟩ := run c (initRegs args) hsc hsat n hh
 have hcl : ∀ g vs, Local (callN P A k g vs) := fun g vs => local_callN P A k g vs
 obtain ⟨own, hle⟩ := own_exec hcl k c hh e
 have hx : (∀ i, x ≠ .exit i) ∧ ∃ vs, ResR P E' h1 fn.results.toList vs ∧ A.fz f = false ∧ Q (tupled vs) (killL fr'.boxes h1) := by
  cases x with
  | exit i => exact q.elim
  | norm => exact ⟨by simp, q⟩
  | ret => exact ⟨by simp, q⟩
 obtain ⟨hx1, vs, hvs, hfz, hq⟩ := hx
 obtain ⟨rd, er⟩ := hvs.run hs' n1
 have hbody : body (callN P A k) P A k f args h n = some ((tupled vs, fr'.boxes), h1, n1, (lg.1 ++ (rd ++ []), lg.2 ++ [])) := by
  unfold body
  simp only [hf, hcb, hn, Bool.false_eq_true, if_false]
  have e2 := bind_run (f := fun vs => AM.bind (if A.fz f then freezeV 1000 (tupled vs) else AM.pure (tupled vs)) fun v => AM.pure (v, fr'.boxes)) (l2 := ([], [])) (b := (tupled vs, fr'.boxes)) (h2 := h1) (n2 := n1) er (by simp only [hfz, Bool.false_eq_true, if_false, pure_bind]; rfl)
  refine (bind_run (l2 := (rd ++ [], [])) (b := (tupled vs, fr'.boxes)) (h2 := h1) (n2 := n1) e ?_)
  cases x with
  | exit i => exact absurd rfl (hx1 i)
  | norm => exact e2
  | ret => exact e2
 have hfree : freeBoxes n n1 h1 fr'.boxes = killL fr'.boxes h1 := by
  funext id
  unfold freeBoxes killL
  by_cases hb : fr'.boxes.contains id = true
  ·have := own id (by simpa using hb)
   simp only [List.not_mem_nil, false_or] at this
   rw [if_pos ⟨this.1, this.2, hb⟩, if_pos hb]
  ·rw [if_neg (fun h => hb h.2.2), if_neg hb]
 refine ⟨k + 1, tupled vs, killL fr'.boxes h1, n1, ((lg.1 ++ (rd ++ [])).filter (· < n), (lg.2 ++ []).filter (· < n)), ?_, hq⟩
 unfold callN
 rw [hp]
 simp only [Bool.false_eq_true, if_false]
 unfold callO
 rw [hbody]
 simp only [finish]
 rw [if_neg (by rw [hst]; simp), hfree]
end
end Go.Abs
