import Derived.Test.YtmnnmgfjlokmkaaGreatAbsLocalB
namespace Go.Abs
section
variable {P : Program} {A : Ann} {call : Nat → List AV → AM AV} {f : Nat}
def sliceAt (h : Heap) (p : Nat × Nat × Nat) : Option (List AV) := match h p.1 with
 | some (.cells cs) => sliceL cs p.2.1 p.2.2
 | _ => none
theorem lift_bind {α β : Type} (a : α) (g : α → AM β) : AM.bind (AM.lift (some a)) g = g a := by
 funext h n
 simp only [AM.bind, AM.lift, AM.pure]
 cases g a h n with
 | none => rfl
 | some x => obtain ⟨b, h', n', lg⟩ := x; simp
theorem loadT_at {t : TypeId} {id off m : Nat} (hc : cellsT P t = some m) : ∃ g : List AV → Option AV, ∀ h n, loadT P t (.ptr id off) h n = (sliceAt h (id, off, m)).bind fun l => (g l).map fun v => (v, h, n, (([id], []) : Log)) := by
 unfold cellsT at hc
 have key : ∀ (agg : Bool) (k : Nat), (if agg then k else 1) = m → ∀ h n, (AM.bind (cellsAt (.ptr id off) (if agg then k else 1)) fun cs => AM.lift (shapeOf agg cs)) h n = (sliceAt h (id, off, m)).bind fun l => (shapeOf agg l).map fun v => (v, h, n, (([id], []) : Log)) := by
  intro agg k hk h n
  rw [hk]
  unfold sliceAt
  simp only [cellsAt, AM.bind, AM.get]
  cases h id with
  | none => rfl
  | some o =>
   cases o with
   | map es => rfl
   | cells cs =>
    simp only
    cases sliceL cs off m with
    | none => rfl
    | some l =>
     simp only [AM.lift, AM.pure, Option.bind_some]
     cases shapeOf agg l <;> rfl
 split at hc
 ·rename_i k h1 h2
  simp only [Option.some.injEq] at hc
  refine ⟨shapeOf true, fun h n => ?_⟩
  unfold loadT
  rw [h1, lift_bind, h2, lift_bind]
  exact key true k hc h n
 ·rename_i k h1 h2
  simp only [Option.some.injEq] at hc
  refine ⟨shapeOf false, fun h n => ?_⟩
  unfold loadT
  rw [h1, lift_bind, h2, lift_bind]
  exact key false k hc h n
 ·cases hc
theorem ld_opV {ops : Array Oper} {o : Oper} {fr : Fr} {p : Nat × Nat × Nat} (hp : ldOf P A f ops o fr = some p) : wantedA ops o fr.regs = some true ∧ ∀ {h h' : Heap} {n n' : Nat} {v : AV} {lg : Log}, opV call P A f o fr.regs h n = some (v, h', n', lg) →
  h' = h ∧ n' = n ∧ lg = ([p.1], []) ∧ ∀ X N, sliceAt X p = sliceAt h p → opV call P A f o fr.regs X N = some (v, X, N, ([p.1], [])) := by
 unfold ldOf at hp
 split at hp
 ·rename_i t a hop hro hw
  split at hp
  ·rename_i id off m hev hc
   simp only [Option.some.injEq] at hp
   subst hp
   refine ⟨hw, ?_⟩
   obtain ⟨g, hg⟩ := loadT_at (id := id) (off := off) hc
   have hv : opV call P A f o fr.regs = loadT P t (.ptr id off) := by
    unfold opV
    rw [hop]
    simp only [hro, Bool.false_eq_true, if_false, opM, hev, lift_bind]
   intro h h' n n' v lg e
   rw [hv, hg] at e
   cases hs : sliceAt h (id, off, m) with
   | none => rw [hs] at e; cases e
   | some l =>
    rw [hs, Option.bind_some] at e
    cases hgl : g l with
    | none => rw [hgl] at e; cases e
    | some w =>
     rw [hgl] at e
     simp only [Option.map_some, Option.some.injEq, Prod.mk.injEq] at e
     obtain ⟨rfl, rfl, rfl, rfl⟩ := e
     refine ⟨rfl, rfl, rfl, fun X N hx => ?_⟩
     rw [hv, hg, hx, Option.bind_some, hgl]
     rfl
  ·cases hp
 ·cases hp
def snapOf (h : Heap) : Pl → Option (List AV)
 | none => none
 | some p => sliceAt h p
end
end Go.Abs
