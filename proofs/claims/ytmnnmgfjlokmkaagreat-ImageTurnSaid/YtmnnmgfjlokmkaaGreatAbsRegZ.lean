import Derived.Test.YtmnnmgfjlokmkaaGreatAbsRegY
open Go Go.Abs
namespace Go.Abs
section
variable {P : Program} {A : Ann} {f nt : Nat} {E : Env} {bx : List Nat} {h : Heap} {Q : AX → Env → List Nat → Heap → Prop} {S : List Nat} {cls : List Cl}
theorem x_gT {dst : Option Nat} {k : SK} {r : List SO} {e : Nat} {w : Bool} (he : lk E e = some (.bool w)) (H : SOpsX P A f nt S cls (⟨dst, none, k⟩ :: r) E bx h Q) : SOpsX P A f nt S cls (⟨dst, some (e, w), k⟩ :: r) E bx h Q := by
 intro ops l0 rg hl hs hS
 obtain ⟨o0, r0, rfl, h1, h2⟩ := slOs_cons hl
 obtain ⟨e1, e2, e3⟩ := slO_some h1
 rcases e3 with ⟨_, e3⟩ | ⟨j, w', e', g1, g2, g3⟩
 ·cases e3
 ·simp only [Option.some.injEq, Prod.mk.injEq] at g2
  obtain ⟨rfl, rfl⟩ := g2
  have hw' : wantedA ops o0 rg = some true := by
   unfold wantedA
   rw [g1]
   simp only [g3, hs e _ he]
   simp
  have hstep : ∀ call h n, stepA call P A f nt ops o0 ⟨rg, bx⟩ h n = stepA call P A f nt ops { o0 with guard := none } ⟨rg, bx⟩ h n := by
   intro call h n
   unfold stepA
   rw [hw']
   rfl
  have hsl : slOs P A f ops ({ o0 with guard := none } :: r0) = some (⟨dst, none, k⟩ :: r) := by
   simp only [slOs, slO, h2]
   simp only at e1 e2
   rw [← e2, ← e1]
  intro n hn
  obtain ⟨kk, fr1, h1', n1, lgs, q1, q2, q3⟩ := H ops _ rg hsl hs hS n hn
  refine ⟨kk, fr1, h1', n1, lgs, ?_, q2, q3⟩
  rw [← q1]
  unfold runLog
  rw [hstep]
theorem x_skip {c : Cl} {dst : Option Nat} {k : SK} {r : List SO} {e : Nat} {w : Bool} (hw : ∀ ops o0 rg, Sat (lk E) rg → slO P A f ops o0 = some ⟨dst, some (e, w), k⟩ → wantedA ops o0 rg = some false) (hd : dstOk' nt dst = true) (H : SOpsX P A f nt S cls r (undefE dst E) bx h Q) : SOpsX P A f nt S (c :: cls) (⟨dst, some (e, w), k⟩ :: r) E bx h Q := by
 intro ops l0 rg hl hs hS
 obtain ⟨o0, r0, rfl, h1, h2⟩ := slOs_cons hl
 obtain ⟨e1, e2, e3⟩ := slO_some h1
 have hw := hw ops o0 rg hs h1
 simp only at e1
 have key : ∃ rg1, Sat (lk (undefE dst E)) rg1 ∧ skipA nt o0 ⟨rg, bx⟩ = some ⟨rg1, bx⟩ := by
  cases dst with
  | none => exact ⟨rg, hs, by unfold skipA; rw [← e1]⟩
  | some d =>
   simp only [dstOk', decide_eq_true_eq] at hd
   exact ⟨upd rg d .undef, hs.put d .undef, by unfold skipA; rw [← e1]; simp only [hd, if_true]⟩
 obtain ⟨rg1, k1, k3⟩ := key
 intro n hn
 obtain ⟨k2, fr2, h2', n2, lgs, q1, q2, q3⟩ := H ops r0 rg1 h2 k1 hS n hn
 have hst : stepA (callN P A k2) P A f nt ops o0 ⟨rg, bx⟩ h n = some (⟨rg1, bx⟩, h, n, ([], [])) := by
  unfold stepA
  rw [hw]
  show AM.lift (skipA nt o0 ⟨rg, bx⟩) h n = _
  rw [k3]
  rfl
 refine ⟨k2, fr2, h2', n2, (([], []), n, n) :: lgs, ?_, ?_, q3⟩
 ·unfold runLog
  rw [hst]
  simp only
  rw [q1]
 ·intro j x hx
  cases j with
  | zero =>
   simp only [List.getElem?_cons_zero, Option.some.injEq] at hx
   subst hx
   exact ⟨Nat.le_refl _, c, rfl, by cases c <;> simp [ClLog]⟩
  | succ j =>
   obtain ⟨a, c2, b1, b2⟩ := q2 j x (by simpa using hx)
   exact ⟨a, c2, by simpa using b1, b2⟩
theorem x_gF {c : Cl} {dst : Option Nat} {k : SK} {r : List SO} {e : Nat} {w : Bool} (he : lk E e = some (.bool (!w))) (hd : dstOk' nt dst = true) (H : SOpsX P A f nt S cls r (undefE dst E) bx h Q) : SOpsX P A f nt S (c :: cls) (⟨dst, some (e, w), k⟩ :: r) E bx h Q :=
 x_skip (fun ops o0 rg hs h1 => by
  obtain ⟨e1, e2, e3⟩ := slO_some h1
  rcases e3 with ⟨_, e3⟩ | ⟨j, w', e', g1, g2, g3⟩
  ·cases e3
  ·simp only [Option.some.injEq, Prod.mk.injEq] at g2
   obtain ⟨rfl, rfl⟩ := g2
   unfold wantedA
   rw [g1]
   simp only [g3, hs e _ he]
   simp) hd H
theorem x_gU {c : Cl} {dst : Option Nat} {k : SK} {r : List SO} {e : Nat} {w : Bool} (he : lk E e = some .undef) (hd : dstOk' nt dst = true) (H : SOpsX P A f nt S cls r (undefE dst E) bx h Q) : SOpsX P A f nt S (c :: cls) (⟨dst, some (e, w), k⟩ :: r) E bx h Q :=
 x_skip (fun ops o0 rg hs h1 => by
  obtain ⟨e1, e2, e3⟩ := slO_some h1
  rcases e3 with ⟨_, e3⟩ | ⟨j, w', e', g1, g2, g3⟩
  ·cases e3
  ·simp only [Option.some.injEq, Prod.mk.injEq] at g2
   obtain ⟨rfl, rfl⟩ := g2
   unfold wantedA
   rw [g1]
   simp only [g3, hs e _ he]
   rfl) hd H
theorem x_as {d : Nat} {k : SK} {r : List SO} {p : Prop} {v w : AV} (hlt : (decide (d < nt)) = true) (hv : sv (lk E) k = some (p, v)) (hp : p) (he : v = w) (H : SOpsX P A f nt S cls r ((d, w) :: E) bx h Q) :
  SOpsX P A f nt S (.A :: cls) (⟨some d, none, k⟩ :: r) E bx h Q := by subst he; exact x_v hlt hv hp H
end
end Go.Abs
