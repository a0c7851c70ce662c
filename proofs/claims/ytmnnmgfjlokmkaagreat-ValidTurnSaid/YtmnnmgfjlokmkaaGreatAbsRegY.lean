import Derived.Test.YtmnnmgfjlokmkaaGreatAbsRegX
namespace Go.Abs
inductive LdV : Option Nat → List AV → AV → Prop where
 | one {c : List AV} {v : AV} (h : c = [v]) : LdV none c v
 | many {c d : List AV} {m : Nat} (h : c = d) (hm : d.length = m) : LdV (some m) c (.agg d)
section
variable {P : Program} {A : Ann} {f nt : Nat} {E : Env} {bx : List Nat} {h : Heap} {Q : AX → Env → List Nat → Heap → Prop} {h0 : Heap} {q : Nat}
theorem o_ldG {d : Nat} {x : SX} {r : List SO} {p v : AV} {cs : List AV} {n : Option Nat} (hlt : (decide (d < nt)) = true) (hx : ev (lk E) x = some p) (hp : VPtr h p cs) (hv : LdV n cs v) (hq : 0 < q → Ext h h0)
  (H : SOps P A f nt h0 (q - 1) r ((d, v) :: E) bx h Q) : SOps P A f nt h0 q (⟨some d, none, .ld x n⟩ :: r) E bx h Q := by
 cases hv with
 | one e => subst e; exact o_ldV hlt hx hp hq H
 | many e hm => subst e; exact o_ldVn hlt hx hp hm hq H
theorem o_iaP {d s m : Nat} {x i : SX} {r : List SO} {p : AV} {cs : List AV} {k : IntKind} {z : Int} (t : List AV) (hlt : (decide (d < nt)) = true) (hx : ev (lk E) x = some p) (hi : ev (lk E) i = some (.int k z)) (hp : VPtr h p cs) (h1 : 0 ≤ z) (h2 : z < m) (ht : sliceL cs (z.toNat * s) t.length = some t)
  (H : ∀ p, VPtr h p t → SOps P A f nt h0 (q - 1) r ((d, p) :: E) bx h Q) : SOps P A f nt h0 q (⟨some d, none, .ia x i (some m) s⟩ :: r) E bx h Q := by
 obtain ⟨p', e, hp'⟩ := hp.part ht
 cases hp with
 | t os _ off hc =>
  simp only [addA, Option.some.injEq] at e
  subst e
  exact o_val (p := 0 ≤ z ∧ z < m) hlt (by simp only [sv, hx, hi]) ⟨h1, h2⟩ (H _ hp')
 | p id off os _ hid hc =>
  simp only [addA, Option.some.injEq] at e
  subst e
  exact o_val (p := 0 ≤ z ∧ z < m) hlt (by simp only [sv, hx, hi]) ⟨h1, h2⟩ (H _ hp')
end
def slIds : AV → List Nat
 | .sl i _ _ _ => [i]
 | _ => []
def PtIn (S : List Nat) : AV → Prop
 | .ptr i _ => i ∈ S
 | _ => True
theorem VSl.live {h : Heap} {s n : Nat} {v : AV} {cs : List AV} (H : VSl h s v cs n) : ∀ i ∈ slIds v, h i ≠ none := by
 intro i hi
 cases H with
 | nil => cases hi
 | tsl _ _ _ => cases hi
 | sl id _ _ os _ hid _ =>
  obtain rfl := List.mem_singleton.1 hi
  rw [hid]
  simp
section
variable {P : Program} {A : Ann} {f nt : Nat} {E : Env} {bx : List Nat} {h : Heap} {Q : AX → Env → List Nat → Heap → Prop} {S : List Nat} {cls : List Cl}
theorem x_iaA {α : Type} {R : Heap → List AV → α → Prop} {l : List α} {d s : Nat} {x i : SX} {r : List SO} {v : AV} {k : IntKind} {z : Nat} (hlt : (decide (d < nt)) = true) (hx : ev (lk E) x = some v) (hi : ev (lk E) i = some (.int k (z : Int))) (hv : Sl R s h v l) (hz : z < l.length) (hS : ∀ i ∈ slIds v, i ∈ S)
  (H : ∀ p c, VPtr h p c → PtIn S p → R h c l[z] → c.length = s → SOpsX P A f nt S cls r ((d, p) :: E) bx h Q) : SOpsX P A f nt S (.A :: cls) (⟨some d, none, .ia x i none s⟩ :: r) E bx h Q := by
 obtain ⟨cs, h1, h2⟩ := hv
 obtain ⟨g1, g2⟩ := h2.get hz
 have hl := h1.len
 have hb : z * s + s ≤ l.length * s := by
  have : (z + 1) * s ≤ l.length * s := Nat.mul_le_mul_right s (by omega)
  rw [Nat.add_mul] at this
  omega
 have hsl : sliceL cs (z * s) s = some ((cs.drop (z * s)).take s) := sliceL_of (by omega)
 obtain ⟨a, ha⟩ : ∃ a, a = l[z] := ⟨_, rfl⟩
 rw [← ha] at H g1
 clear ha
 generalize l.length = n at h1 hb hl hz
 have hzi : (0 : Int) ≤ (z : Int) ∧ (z : Int) < n := by omega
 cases h1 with
 | nil => omega
 | tsl _ _ _ => exact x_v (p := (0 : Int) ≤ (z : Int) ∧ (z : Int) < n) (v := .tptr cs (z * s)) hlt (by simp only [sv, hx, hi, Int.toNat_natCast]) hzi (H _ _ (.t _ _ _ (by rw [g2]; exact hsl)) trivial g1 g2)
 | sl id off _ os _ hid hc => exact x_v (p := s = s ∧ (0 : Int) ≤ (z : Int) ∧ (z : Int) < n) (v := .ptr id (off + z * s)) hlt (by simp only [sv, hx, hi, Int.toNat_natCast]) ⟨rfl, hzi⟩ (H _ _ (.p _ _ os _ hid (by rw [g2]; exact sliceL_sub hc hsl)) (hS id (by simp [slIds])) g1 g2)
theorem x_ldB {d : Nat} {x : SX} {r : List SO} {p v : AV} {cs : List AV} {n : Option Nat} (hlt : (decide (d < nt)) = true) (hx : ev (lk E) x = some p) (hp : VPtr h p cs) (hm : PtIn S p) (hv : LdV n cs v)
  (H : SOpsX P A f nt S cls r ((d, v) :: E) bx h Q) : SOpsX P A f nt S (.B :: cls) (⟨some d, none, .ld x n⟩ :: r) E bx h Q := by
 intro ops l0 rg hl hs hS
 obtain ⟨o0, r0, rfl, h1, h2⟩ := slOs_cons hl
 obtain ⟨e1, e2, e3⟩ := slO_some h1
 obtain ⟨t, x0, hop, q1, q2, hro⟩ := load_inv e2
 have hg : o0.guard = none := by
  rcases e3 with ⟨e, _⟩ | ⟨_, _, _, _, e, _⟩
  ·exact e
  ·cases e
 intro m hn
 have hpl : putA A f nt o0 v ⟨rg, bx⟩ = some ⟨upd rg d v, bx⟩ := put_plain e1.symm (by simpa using hlt) (fun hb => by rw [hop] at hb; simp [isBox] at hb)
 have hld : ∃ rd, (∀ id ∈ rd, id ∈ S) ∧ loadT P t p h m = some (v, h, m, (rd, [])) := by
  cases hv with
  | one e =>
   subst e
   rcases cellsN_some q2 with ⟨_, e, _, _⟩ | ⟨_, g1, k, g2⟩
   ·cases e
   cases hp with
   | t os _ off hc =>
    refine ⟨[], by simp, ?_⟩
    have hc : sliceL os off 1 = some [v] := hc
    simp only [loadT, g1, g2, AM.bind, AM.lift, AM.pure, cellsAt, Bool.false_eq_true, if_false, hc, shapeOf]
    rfl
   | p id off os _ hid hc =>
    refine ⟨[id], by simpa [PtIn] using hm, ?_⟩
    have hc : sliceL os off 1 = some [v] := hc
    simp only [loadT, g1, g2, AM.bind, AM.lift, AM.pure, cellsAt, AM.get, hid, Bool.false_eq_true, if_false, hc, shapeOf]
    rfl
  | @many _ dd k e hk =>
   subst e
   rcases cellsN_some q2 with ⟨_, e, g1, g2⟩ | ⟨e, _⟩
   ·cases e
    cases hp with
    | t os _ off hc =>
     refine ⟨[], by simp, ?_⟩
     rw [hk] at hc
     simp only [loadT, g1, g2, AM.bind, AM.lift, AM.pure, cellsAt, if_true, hc, shapeOf]
     rfl
    | p id off os _ hid hc =>
     refine ⟨[id], by simpa [PtIn] using hm, ?_⟩
     rw [hk] at hc
     simp only [loadT, g1, g2, AM.bind, AM.lift, AM.pure, cellsAt, AM.get, hid, if_true, hc, shapeOf]
     rfl
   ·cases e
 obtain ⟨rd, hrd, hld⟩ := hld
 obtain ⟨k, fr3, h3, n3, lgs3, e4, hd, qq⟩ := H ops r0 _ h2 (hs.put d v) hS m hn
 have hst : stepA (callN P A k) P A f nt ops o0 ⟨rg, bx⟩ h m = some (⟨upd rg d v, bx⟩, h, m, (rd, [])) := by
  unfold stepA
  have hw : wantedA ops o0 rg = some true := by unfold wantedA; rw [hg]
  simp only [hw]
  unfold opV
  rw [hop]
  simp only [hro, Bool.false_eq_true, if_false, opM, ev_sound hs q1 hx]
  unfold AM.bind
  simp only [AM.lift, AM.pure, hld, hpl]
  simp
 refine ⟨k, fr3, h3, n3, ((rd, []), m, m) :: lgs3, ?_, ?_, qq⟩
 ·unfold runLog
  rw [hst]
  simp only
  rw [e4]
 ·intro j y hy
  cases j with
  | zero =>
   simp only [List.getElem?_cons_zero, Option.some.injEq] at hy
   subst hy
   exact ⟨Nat.le_refl _, .B, rfl, rfl, hrd, rfl⟩
  | succ j =>
   obtain ⟨a, c, b1, b2⟩ := hd j y (by simpa using hy)
   exact ⟨a, c, by simpa using b1, b2⟩
theorem x_alcC {d : Nat} {esc : Bool} {z : List AV} {r : List SO} (hlt : (decide (d < nt)) = true)
  (H : ∀ i, h i = none → SOpsX P A f nt S cls r ((d, .ptr i 0) :: E) (if esc then bx else i :: bx) (upd h i (some (.cells z))) Q) : SOpsX P A f nt S (.C :: cls) (⟨some d, none, .alc esc z⟩ :: r) E bx h Q := by
 intro ops l0 rg hl hs hS
 obtain ⟨o0, r0, rfl, h1, h2⟩ := slOs_cons hl
 obtain ⟨e1, e2, e3⟩ := slO_some h1
 have hg : o0.guard = none := by
  rcases e3 with ⟨e, _⟩ | ⟨_, _, _, _, e, _⟩
  ·exact e
  ·cases e
 obtain ⟨d', t, zz, hd', hop, hz, rfl, ho, hsz, hro, hesc⟩ := slH_inv (getH e2 rfl (by simp))
 have hd : o0.dst = some d := e1.symm
 rw [hd] at hd'
 cases hd'
 refine opsX_h (by unfold wantedA; rw [hg]) fun n hn => ?_
 have hi := hn n (Nat.le_refl _)
 refine ⟨0, .ptr n 0, upd h n (some (.cells zz.cells)), n + 1, ([], []), _, ?_, rfl, put_bx hd hlt (by rw [hop]; rfl), ?_⟩
 ·unfold opV
  rw [hop]
  simp only [hro, Bool.false_eq_true, if_false, opM, hz, lift_some_eq, pure_bind]
  rw [if_pos ⟨ho, hsz⟩]
  rfl
 ·have := H n hi ops r0 _ h2 (hs.put d _) (fun id hid => by
   unfold upd
   split
   ·simp
   ·exact hS id hid)
  rw [hesc]
  exact this
end
end Go.Abs
