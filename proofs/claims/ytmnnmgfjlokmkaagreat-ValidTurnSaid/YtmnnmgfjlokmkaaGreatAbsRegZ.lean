import Derived.Test.YtmnnmgfjlokmkaaGreatAbsRegY
open Go Go.Abs
namespace Go.Abs
section
variable {P : Program} {A : Ann} {f nt : Nat} {E : Env} {bx : List Nat} {h : Heap} {Q : AX → Env → List Nat → Heap → Prop} {S : List Nat} {cls : List Cl}
theorem x_gT {dst : Option Nat} {k : SK} {r : List SO} {e : Nat} {w : Bool} (he : lk E e = some (.bool w)) (H : SOpsX P A f nt S cls (⟨dst, none, k⟩ :: r) E bx h Q) : SOpsX P A f nt S cls (⟨dst, some (e, w), k⟩ :: r) E bx h Q := by
 intro ops l0 rg hl hs hS
 obtain ⟨o0, r0, rfl, h1, h2⟩ := slOs_cons hl
 obtain ⟨e1, e2, e3⟩ := slO_some h1
 rcases e3 with ⟨_, e3⟩ | ⟨j, w', e', g1, g2, g3⟩
 ·cases e3
 ·simp only [Option.some.injEq, Prod.mk.injEq] at g2
  obtain ⟨rfl, rfl⟩ := g2
  have hw' : wantedA ops o0 rg = some true := by
   unfold wantedA
   rw [g1]
   simp only [g3, hs e _ he]
   simp
  have hstep : ∀ call h n, stepA call P A f nt ops o0 ⟨rg, bx⟩ h n = stepA call P A f nt ops { o0 with guard := none } ⟨rg, bx⟩ h n := by
   intro call h n
   unfold stepA
   rw [hw']
   rfl
  have hsl : slOs P A f ops ({ o0 with guard := none } :: r0) = some (⟨dst, none, k⟩ :: r) := by
   simp only [slOs, slO, h2]
   simp only at e1 e2
   rw [← e2, ← e1]
  intro n hn
  obtain ⟨kk, fr1, h1', n1, lgs, q1, q2, q3⟩ := H ops _ rg hsl hs hS n hn
  refine ⟨kk, fr1, h1', n1, lgs, ?_, q2, q3⟩
  rw [← q1]
  unfold runLog
  rw [hstep]
theorem x_skip {c : Cl} {dst : Option Nat} {k : SK} {r : List SO} {e : Nat} {w : Bool} (hw : ∀ ops o0 rg, Sat (lk E) rg → slO P A f ops o0 = some ⟨dst, some (e, w), k⟩ → wantedA ops o0 rg = some false) (hd : dstOk' nt dst = true) (H : SOpsX P A f nt S cls r (undefE dst E) bx h Q) : SOpsX P A f nt S (c :: cls) (⟨dst, some (e, w), k⟩ :: r) E bx h Q := by
 intro ops l0 rg hl hs hS
 obtain ⟨o0, r0, rfl, h1, h2⟩ := slOs_cons hl
 obtain ⟨e1, e2, e3⟩ := slO_some h1
 have hw := hw ops o0 rg hs h1
 simp only at e1
 have key : ∃ rg1, Sat (lk (undefE dst E)) rg1 ∧ skipA nt o0 ⟨rg, bx⟩ = some ⟨rg1, bx⟩ := by
  cases dst with
  | none => exact ⟨rg, hs, by unfold skipA; rw [← e1]⟩
  | some d =>
   simp only [dstOk', decide_eq_true_eq] at hd
   exact ⟨upd rg d .undef, hs.put d .undef, by unfold skipA; rw [← e1]; simp only [hd, if_true]⟩
 obtain ⟨rg1, k1, k3⟩ := key
 intro n hn
 obtain ⟨k2, fr2, h2', n2, lgs, q1, q2, q3⟩ := H ops r0 rg1 h2 k1 hS n hn
 have hst : stepA (callN P A k2) P A f nt ops o0 ⟨rg, bx⟩ h n = some (⟨rg1, bx⟩, h, n, ([], [])) := by
  unfold stepA
  rw [hw]
  show AM.lift (skipA nt o0 ⟨rg, bx⟩) h n = _
  rw [k3]
  rfl
 refine ⟨k2, fr2, h2', n2, (([], []), n, n) :: lgs, ?_, ?_, q3⟩
 ·unfold runLog
  rw [hst]
  simp only
  rw [q1]
 ·intro j x hx
  cases j with
  | zero =>
   simp only [List.getElem?_cons_zero, Option.some.injEq] at hx
   subst hx
   exact ⟨Nat.le_refl _, c, rfl, by cases c <;> simp [ClLog]⟩
  | succ j =>
   obtain ⟨a, c2, b1, b2⟩ := q2 j x (by simpa using hx)
   exact ⟨a, c2, by simpa using b1, b2⟩
theorem x_gF {c : Cl} {dst : Option Nat} {k : SK} {r : List SO} {e : Nat} {w : Bool} (he : lk E e = some (.bool (!w))) (hd : dstOk' nt dst = true) (H : SOpsX P A f nt S cls r (undefE dst E) bx h Q) : SOpsX P A f nt S (c :: cls) (⟨dst, some (e, w), k⟩ :: r) E bx h Q :=
 x_skip (fun ops o0 rg hs h1 => by
  obtain ⟨e1, e2, e3⟩ := slO_some h1
  rcases e3 with ⟨_, e3⟩ | ⟨j, w', e', g1, g2, g3⟩
  ·cases e3
  ·simp only [Option.some.injEq, Prod.mk.injEq] at g2
   obtain ⟨rfl, rfl⟩ := g2
   unfold wantedA
   rw [g1]
   simp only [g3, hs e _ he]
   simp) hd H
theorem x_gU {c : Cl} {dst : Option Nat} {k : SK} {r : List SO} {e : Nat} {w : Bool} (he : lk E e = some .undef) (hd : dstOk' nt dst = true) (H : SOpsX P A f nt S cls r (undefE dst E) bx h Q) : SOpsX P A f nt S (c :: cls) (⟨dst, some (e, w), k⟩ :: r) E bx h Q :=
 x_skip (fun ops o0 rg hs h1 => by
  obtain ⟨e1, e2, e3⟩ := slO_some h1
  rcases e3 with ⟨_, e3⟩ | ⟨j, w', e', g1, g2, g3⟩
  ·cases e3
  ·simp only [Option.some.injEq, Prod.mk.injEq] at g2
   obtain ⟨rfl, rfl⟩ := g2
   unfold wantedA
   rw [g1]
   simp only [g3, hs e _ he]
   rfl) hd H
theorem x_bool {d : Nat} {k : SK} {r : List SO} {p : Prop} {e : Bool} (hlt : (decide (d < nt)) = true) (hv : sv (lk E) k = some (p, .bool e)) (hp : p) (H : ∀ b, b = e → SOpsX P A f nt S cls r ((d, .bool b) :: E) bx h Q) : SOpsX P A f nt S (.A :: cls) (⟨some d, none, k⟩ :: r) E bx h Q :=
 x_v hlt hv hp (H e rfl)
theorem x_ldA {d : Nat} {x : SX} {r : List SO} {p v : AV} {cs : List AV} {n : Option Nat} (hlt : (decide (d < nt)) = true) (hx : ev (lk E) x = some p) (hp : VPtr (killL S h) p cs) (hv : LdV n cs v)
  (H : SOpsX P A f nt S cls r ((d, v) :: E) bx h Q) : SOpsX P A f nt S (.A :: cls) (⟨some d, none, .ld x n⟩ :: r) E bx h Q :=
 x_A (R := fun E' bx' h1 => E' = (d, v) :: E ∧ bx' = bx ∧ h1 = killL S h) (o_ldG hlt hx hp hv (fun h => absurd h (by omega)) (o_nil ⟨rfl, rfl, rfl, rfl⟩)) (by
  rintro _ _ _ ⟨rfl, rfl, rfl⟩ _
  rw [joinS_kill]
  exact H)
theorem x_lookA {d : Nat} {x : SX} {args : List SX} {r : List SO} {g : Nat} {first cap vs : List AV} {v : AV} (hlt : (decide (d < nt)) = true) (hx : ev (lk E) x = some (.fn g first cap)) (ha : evS (lk E) args = some vs)
  (hc : Looks P A g (first ++ vs ++ cap) (killL S h) v) (H : ∀ h', Ext h h' → SOpsX P A f nt S cls r ((d, v) :: E) bx h' Q) : SOpsX P A f nt S (.A :: cls) (⟨some d, none, .call x args⟩ :: r) E bx h Q := by
 refine x_A (R := fun E' bx' h1 => E' = (d, v) :: E ∧ bx' = bx ∧ Ext (killL S h) h1) (o_hcall rfl (by simpa [dstOk'] using hlt) hx ha hc fun w k q => ?_) ?_
 ·obtain ⟨rfl, q⟩ := q
  exact o_nil ⟨rfl, rfl, rfl, q⟩
 ·rintro _ _ h1 ⟨rfl, rfl, q⟩ hk
  refine H _ fun id o e => ?_
  unfold joinS
  split
  ·exact e
  ·rename_i hc
   exact q id o (by unfold killL; rw [if_neg hc]; exact e)
theorem x_lenA {α : Type} {R : Heap → List AV → α → Prop} {l : List α} {d s : Nat} {x : SX} {r : List SO} {v : AV} (hlt : (decide (d < nt)) = true) (hx : ev (lk E) x = some v) (hv : Sl R s h v l)
  (H : SOpsX P A f nt S cls r ((d, .int .i64 l.length) :: E) bx h Q) : SOpsX P A f nt S (.A :: cls) (⟨some d, none, .len x none⟩ :: r) E bx h Q := by
 obtain ⟨cs, h1, h2⟩ := hv
 generalize l.length = n at *
 cases h1 with
 | nil => exact x_v (p := True) hlt (by simp only [sv, hx]; rfl) trivial H
 | tsl _ _ _ => exact x_v (p := True) hlt (by simp only [sv, hx]) trivial H
 | sl id off _ os _ hid hc => exact x_v (p := True) hlt (by simp only [sv, hx]) trivial H
theorem x_lenC {α : Type} {R : Heap → List AV → α → Prop} {l : List α} {d s : Nat} {x : SX} {r : List SO} {v : AV} (hlt : (decide (d < nt)) = true) (hx : ev (lk E) x = some v) (hv : Sl R s h v l)
  (H : SOpsX P A f nt S cls r ((d, .int .i64 l.length) :: E) bx h Q) : SOpsX P A f nt S (.C :: cls) (⟨some d, none, .len x none⟩ :: r) E bx h Q := by
 obtain ⟨cs, h1, h2⟩ := hv
 generalize l.length = n at *
 cases h1 with
 | nil => exact x_vC (p := True) rfl hlt (by simp only [sv, hx]; rfl) trivial H
 | tsl _ _ _ => exact x_vC (p := True) rfl hlt (by simp only [sv, hx]) trivial H
 | sl id off _ os _ hid hc => exact x_vC (p := True) rfl hlt (by simp only [sv, hx]) trivial H
theorem x_stE {dst : Option Nat} {x y : SX} {m : Nat} {r : List SO} {id off : Nat} {v : AV} {cs cs' : List AV} (hd : dstOk' nt dst = true) (hx : ev (lk E) x = some (.ptr id off)) (hy : ev (lk E) y = some v) (hm : v.cells.length = m) (ho : v.cells.all AV.one = true)
  (hid : h id = some (.cells cs)) (hS0 : id ∈ S) (hs' : spliceL cs off v.cells = some cs') (H : SOpsX P A f nt S cls r (undefE dst E) bx (upd h id (some (.cells cs'))) Q) : SOpsX P A f nt S (.E :: cls) (⟨dst, none, .st x y m⟩ :: r) E bx h Q := by
 intro ops l0 rg hl hs hS
 obtain ⟨o0, r0, rfl, h1, h2⟩ := slOs_cons hl
 obtain ⟨e1, e2, e3⟩ := slO_some h1
 have hg : o0.guard = none := by
  rcases e3 with ⟨e, _⟩ | ⟨_, _, _, _, e, _⟩
  ·exact e
  ·cases e
 obtain ⟨t, a, x0, hop, q1, q2, q3, hro⟩ := slH_inv (getH e2 rfl (by simp))
 have hput : ∃ rg1, putA A f nt o0 .undef ⟨rg, bx⟩ = some ⟨rg1, bx⟩ ∧ Sat (lk (undefE dst E)) rg1 := by
  cases dst with
  | none => exact ⟨rg, put_nb e1.symm hd (by rw [hop]; rfl), hs⟩
  | some d => exact ⟨upd rg d .undef, put_nb e1.symm hd (by rw [hop]; rfl), hs.put d .undef⟩
 obtain ⟨rg1, hp1, hs1⟩ := hput
 refine opsX_h (by unfold wantedA; rw [hg]) fun n hn => ?_
 refine ⟨0, .undef, upd h id (some (.cells cs')), n, ([id], [id]), ⟨rg1, bx⟩, ?_, ?_, hp1, ?_⟩
 ·unfold opV
  rw [hop]
  simp only [hro, Bool.false_eq_true, if_false]
  simp only [opM, ev_sound hs q1 hx, ev_sound hs q2 hy, lift_some_eq, pure_bind, storeT, q3, hm, if_true, storeAtA]
  simp only [AM.bind, AM.get, AM.set, AM.pure, AM.lift, hid, ho, if_true, hs']
  rfl
 ·intro i hi
  have : i = id := by simpa using hi
  rw [this]
  exact hS0
 ·exact H ops r0 _ h2 hs1 fun i hi => by
   unfold upd
   split
   ·simp
   ·exact hS i hi
theorem x_st1E {dst : Option Nat} {x y : SX} {r : List SO} {id off : Nat} {v : AV} {cs : List AV} (hd : dstOk' nt dst = true) (hx : ev (lk E) x = some (.ptr id off)) (hy : ev (lk E) y = some v) (ho : v.one = true)
  (hid : h id = some (.cells cs)) (hS0 : id ∈ S) (hlt : off < cs.length) (H : SOpsX P A f nt S cls r (undefE dst E) bx (upd h id (some (.cells (cs.set off v)))) Q) : SOpsX P A f nt S (.E :: cls) (⟨dst, none, .st x y 1⟩ :: r) E bx h Q := by
 have hc : v.cells = [v] := by cases v <;> first | rfl | cases ho
 exact x_stE (v := v) hd hx hy (by rw [hc]; rfl) (by rw [hc]; simp [ho]) hid hS0 (by rw [hc]; exact splice_one hlt) H
theorem x_as {d : Nat} {k : SK} {r : List SO} {p : Prop} {v w : AV} (hlt : (decide (d < nt)) = true) (hv : sv (lk E) k = some (p, v)) (hp : p) (he : v = w) (H : SOpsX P A f nt S cls r ((d, w) :: E) bx h Q) :
  SOpsX P A f nt S (.A :: cls) (⟨some d, none, k⟩ :: r) E bx h Q := by subst he; exact x_v hlt hv hp H
theorem x_asC {d : Nat} {k : SK} {r : List SO} {p : Prop} {v w : AV} (hk : heapy k = false) (hlt : (decide (d < nt)) = true) (hv : sv (lk E) k = some (p, v)) (hp : p) (he : v = w) (H : SOpsX P A f nt S cls r ((d, w) :: E) bx h Q) :
  SOpsX P A f nt S (.C :: cls) (⟨some d, none, k⟩ :: r) E bx h Q := by subst he; exact x_vC hk hlt hv hp H
theorem x_mksC {d s b : Nat} {z : List AV} {x y : SX} {r : List SO} {m : Int} (hlt : (decide (d < nt)) = true) (hx : ev (lk E) x = some (.int .i64 m)) (hy : ev (lk E) y = some (.int .i64 m)) (h0m : 0 ≤ m) (hbd : m * (b + 1) ≤ 2 ^ 40)
  (H : ∀ i, h i = none → SOpsX P A f nt S cls r ((d, .sl i 0 m.toNat s) :: E) bx (upd h i (some (.cells (zerosA z (m.toNat * s))))) Q) : SOpsX P A f nt S (.C :: cls) (⟨some d, none, .mks false z s b x y⟩ :: r) E bx h Q := by
 intro ops l0 rg hl hs hS
 obtain ⟨o0, r0, rfl, h1, h2⟩ := slOs_cons hl
 obtain ⟨e1, e2, e3⟩ := slO_some h1
 have hg : o0.guard = none := by
  rcases e3 with ⟨e, _⟩ | ⟨_, _, _, _, e, _⟩
  ·exact e
  ·cases e
 obtain ⟨t, l0', c0, e', zz, hop, hx0, hy0, q1, q2, q3, q4, q5, q6, q7, q8, hro⟩ := slH_inv (getH e2 rfl (by simp))
 refine opsX_h (by unfold wantedA; rw [hg]) fun n hn => ?_
 have hi := hn n (Nat.le_refl _)
 refine ⟨0, .sl n 0 m.toNat s, upd h n (some (.cells (zerosA z (m.toNat * s)))), n + 1, ([], []), _, ?_, rfl, put_nb e1.symm (by simpa [dstOk'] using hlt) (by rw [hop]; rfl), ?_⟩
 ·unfold opV
  rw [hop]
  simp only [← hro, Bool.false_eq_true, if_false, opM, ev_sound hs hx0 hx, ev_sound hs hy0 hy, lift_some_eq, pure_bind, makeSliceA, q1, q2, q3, q4, i64A]
  rw [if_pos ⟨trivial, h0m, hbd, q6, by rw [q5]; exact q7, by rw [q5]; exact q8⟩, q5]
  rfl
 ·exact H n hi ops r0 _ h2 (hs.put d _) (fun id hid => by
   unfold upd
   split
   ·simp
   ·exact hS id hid)
theorem x_ld1 {d : Nat} {x : SX} {r : List SO} {os : List AV} {off : Nat} {v : AV} (hlt : (decide (d < nt)) = true) (hx : ev (lk E) x = some (.tptr os off)) (hv : os[off]? = some v)
  (H : SOpsX P A f nt S cls r ((d, v) :: E) bx h Q) : SOpsX P A f nt S (.B :: cls) (⟨some d, none, .ld x none⟩ :: r) E bx h Q := by
 refine x_ldB hlt hx (.t os [v] off ?_) trivial (.one rfl) H
 have hlt := (List.getElem?_eq_some_iff.1 hv).1
 unfold sliceL
 rw [List.length_singleton, if_pos (by omega)]
 congr 1
 rw [List.drop_eq_getElem_cons hlt, (List.getElem?_eq_some_iff.1 hv).2]
 rfl
theorem x_ldm {d m : Nat} {x : SX} {r : List SO} {os l : List AV} {off : Nat} (hlt : (decide (d < nt)) = true) (hx : ev (lk E) x = some (.tptr os off)) (hl : l.length = m) (hv : sliceL os off m = some l)
  (H : SOpsX P A f nt S cls r ((d, .agg l) :: E) bx h Q) : SOpsX P A f nt S (.B :: cls) (⟨some d, none, .ld x (some m)⟩ :: r) E bx h Q :=
 x_ldB hlt hx (.t os l off (by rw [hl]; exact hv)) trivial (.many rfl hl) H
theorem x_ldF {d : Nat} {x : SX} {r : List SO} {p v : AV} {cs : List AV} {n : Option Nat} (hlt : (decide (d < nt)) = true) (hx : ev (lk E) x = some p) (hp : VPtr h p cs) (hv : LdV n cs v)
  (H : SOpsX P A f nt S cls r ((d, v) :: E) bx h Q) : SOpsX P A f nt S (.F :: cls) (⟨some d, none, .ld x n⟩ :: r) E bx h Q := by
 intro ops l0 rg hl hs hS
 obtain ⟨o0, r0, rfl, h1, h2⟩ := slOs_cons hl
 obtain ⟨e1, e2, e3⟩ := slO_some h1
 obtain ⟨t, x0, hop, q1, q2, hro⟩ := load_inv e2
 have hg : o0.guard = none := by
  rcases e3 with ⟨e, _⟩ | ⟨_, _, _, _, e, _⟩
  ·exact e
  ·cases e
 intro m hn
 have hpl : putA A f nt o0 v ⟨rg, bx⟩ = some ⟨upd rg d v, bx⟩ := put_plain e1.symm (by simpa using hlt) (fun hb => by rw [hop] at hb; simp [isBox] at hb)
 have hld : ∃ rd, loadT P t p h m = some (v, h, m, (rd, [])) := by
  cases hv with
  | one e =>
   subst e
   rcases cellsN_some q2 with ⟨_, e, _, _⟩ | ⟨_, g1, k, g2⟩
   ·cases e
   cases hp with
   | t os _ off hc =>
    refine ⟨[], ?_⟩
    have hc : sliceL os off 1 = some [v] := hc
    simp only [loadT, g1, g2, AM.bind, AM.lift, AM.pure, cellsAt, Bool.false_eq_true, if_false, hc, shapeOf]
    rfl
   | p id off os _ hid hc =>
    refine ⟨[id], ?_⟩
    have hc : sliceL os off 1 = some [v] := hc
    simp only [loadT, g1, g2, AM.bind, AM.lift, AM.pure, cellsAt, AM.get, hid, Bool.false_eq_true, if_false, hc, shapeOf]
    rfl
  | @many _ dd k e hk =>
   subst e
   rcases cellsN_some q2 with ⟨_, e, g1, g2⟩ | ⟨e, _⟩
   ·cases e
    cases hp with
    | t os _ off hc =>
     refine ⟨[], ?_⟩
     rw [hk] at hc
     simp only [loadT, g1, g2, AM.bind, AM.lift, AM.pure, cellsAt, if_true, hc, shapeOf]
     rfl
    | p id off os _ hid hc =>
     refine ⟨[id], ?_⟩
     rw [hk] at hc
     simp only [loadT, g1, g2, AM.bind, AM.lift, AM.pure, cellsAt, AM.get, hid, if_true, hc, shapeOf]
     rfl
   ·cases e
 obtain ⟨rd, hld⟩ := hld
 obtain ⟨k, fr3, h3, n3, lgs3, e4, hd, qq⟩ := H ops r0 _ h2 (hs.put d v) hS m hn
 have hst : stepA (callN P A k) P A f nt ops o0 ⟨rg, bx⟩ h m = some (⟨upd rg d v, bx⟩, h, m, (rd, [])) := by
  unfold stepA
  have hw : wantedA ops o0 rg = some true := by unfold wantedA; rw [hg]
  simp only [hw]
  unfold opV
  rw [hop]
  simp only [hro, Bool.false_eq_true, if_false, opM, ev_sound hs q1 hx]
  unfold AM.bind
  simp only [AM.lift, AM.pure, hld, hpl]
  simp
 refine ⟨k, fr3, h3, n3, ((rd, []), m, m) :: lgs3, ?_, ?_, qq⟩
 ·unfold runLog
  rw [hst]
  simp only
  rw [e4]
 ·intro j y hy
  cases j with
  | zero =>
   simp only [List.getElem?_cons_zero, Option.some.injEq] at hy
   subst hy
   exact ⟨Nat.le_refl _, .F, rfl, rfl, rfl⟩
  | succ j =>
   obtain ⟨a, c, b1, b2⟩ := hd j y (by simpa using hy)
   exact ⟨a, c, by simpa using b1, b2⟩
theorem x_ldF1 {d : Nat} {x : SX} {r : List SO} {id off : Nat} {cs : List AV} {v : AV} (hlt : (decide (d < nt)) = true) (hx : ev (lk E) x = some (.ptr id off)) (hid : h id = some (.cells cs)) (hv : cs[off]? = some v)
  (H : SOpsX P A f nt S cls r ((d, v) :: E) bx h Q) : SOpsX P A f nt S (.F :: cls) (⟨some d, none, .ld x none⟩ :: r) E bx h Q := by
 refine x_ldF hlt hx (.p id off cs [v] hid ?_) (.one rfl) H
 have hlt := (List.getElem?_eq_some_iff.1 hv).1
 unfold sliceL
 rw [List.length_singleton, if_pos (by omega)]
 congr 1
 rw [List.drop_eq_getElem_cons hlt, (List.getElem?_eq_some_iff.1 hv).2]
 rfl
theorem x_ldFt {d : Nat} {x : SX} {r : List SO} {os : List AV} {off : Nat} {v : AV} (hlt : (decide (d < nt)) = true) (hx : ev (lk E) x = some (.tptr os off)) (hv : os[off]? = some v)
  (H : SOpsX P A f nt S cls r ((d, v) :: E) bx h Q) : SOpsX P A f nt S (.F :: cls) (⟨some d, none, .ld x none⟩ :: r) E bx h Q := by
 refine x_ldF hlt hx (.t os [v] off ?_) (.one rfl) H
 have hlt := (List.getElem?_eq_some_iff.1 hv).1
 unfold sliceL
 rw [List.length_singleton, if_pos (by omega)]
 congr 1
 rw [List.drop_eq_getElem_cons hlt, (List.getElem?_eq_some_iff.1 hv).2]
 rfl
theorem x_ldFm {d m : Nat} {x : SX} {r : List SO} {os l : List AV} {off : Nat} (hlt : (decide (d < nt)) = true) (hx : ev (lk E) x = some (.tptr os off)) (hl : l.length = m) (hv : sliceL os off m = some l)
  (H : SOpsX P A f nt S cls r ((d, .agg l) :: E) bx h Q) : SOpsX P A f nt S (.F :: cls) (⟨some d, none, .ld x (some m)⟩ :: r) E bx h Q :=
 x_ldF hlt hx (.t os l off (by rw [hl]; exact hv)) (.many rfl hl) H
theorem x_iaK {α : Type} {R : Heap → List AV → α → Prop} {l : List α} {d s : Nat} {x i : SX} {r : List SO} {v : AV} {k : IntKind} {z : Nat} (hlt : (decide (d < nt)) = true) (hx : ev (lk E) x = some v) (hi : ev (lk E) i = some (.int k (z : Int))) (hv : Sl R s (killL S h) v l) (hz : z < l.length)
  (H : ∀ p c, VPtr (killL S h) p c → R (killL S h) c l[z] → c.length = s → SOpsX P A f nt S cls r ((d, p) :: E) bx h Q) : SOpsX P A f nt S (.A :: cls) (⟨some d, none, .ia x i none s⟩ :: r) E bx h Q :=
 x_A (R := fun E' bx' h1 => ∃ p c, VPtr (killL S h) p c ∧ R (killL S h) c l[z] ∧ c.length = s ∧ E' = (d, p) :: E ∧ bx' = bx ∧ h1 = killL S h) (o_iaS hlt hx hi hv hz fun p c h1 h2 h3 => o_nil ⟨rfl, p, c, h1, h2, h3, rfl, rfl, rfl⟩) (by
  rintro _ _ _ ⟨p, c, h1, h2, h3, rfl, rfl, rfl⟩ _
  rw [joinS_kill]
  exact H p c h1 h2 h3)
theorem x_iaGK {α : Type} {R : Heap → List AV → α → Prop} {l : List α} {g : Heap} {d s : Nat} {x i : SX} {r : List SO} {v : AV} {k : IntKind} {z : Nat} (hlt : (decide (d < nt)) = true) (hx : ev (lk E) x = some v) (hi : ev (lk E) i = some (.int k (z : Int))) (hg : Ext g (killL S h)) (hv : Sl R s g v l) (hz : z < l.length)
  (H : ∀ p c, VPtr (killL S h) p c → R g c l[z] → c.length = s → SOpsX P A f nt S cls r ((d, p) :: E) bx h Q) : SOpsX P A f nt S (.A :: cls) (⟨some d, none, .ia x i none s⟩ :: r) E bx h Q :=
 x_A (R := fun E' bx' h1 => ∃ p c, VPtr (killL S h) p c ∧ R g c l[z] ∧ c.length = s ∧ E' = (d, p) :: E ∧ bx' = bx ∧ h1 = killL S h) (o_iaG hlt hx hi hg hv hz fun p c h1 h2 h3 => o_nil ⟨rfl, p, c, h1, h2, h3, rfl, rfl, rfl⟩) (by
  rintro _ _ _ ⟨p, c, h1, h2, h3, rfl, rfl, rfl⟩ _
  rw [joinS_kill]
  exact H p c h1 h2 h3)
theorem x_iaPK {d s m : Nat} {x i : SX} {r : List SO} {p : AV} {cs : List AV} {k : IntKind} {z : Int} (t : List AV) (hlt : (decide (d < nt)) = true) (hx : ev (lk E) x = some p) (hi : ev (lk E) i = some (.int k z)) (hp : VPtr (killL S h) p cs) (h1 : 0 ≤ z) (h2 : z < m) (ht : sliceL cs (z.toNat * s) t.length = some t)
  (H : ∀ p, VPtr (killL S h) p t → SOpsX P A f nt S cls r ((d, p) :: E) bx h Q) : SOpsX P A f nt S (.A :: cls) (⟨some d, none, .ia x i (some m) s⟩ :: r) E bx h Q :=
 x_A (R := fun E' bx' h1 => ∃ p, VPtr (killL S h) p t ∧ E' = (d, p) :: E ∧ bx' = bx ∧ h1 = killL S h) (o_iaP t hlt hx hi hp h1 h2 ht fun p h1 => o_nil ⟨rfl, p, h1, rfl, rfl, rfl⟩) (by
  rintro _ _ _ ⟨p, h1, rfl, rfl, rfl⟩ _
  rw [joinS_kill]
  exact H p h1)
theorem x_faK {d m : Nat} {x : SX} {r : List SO} {p : AV} {cs : List AV} (t : List AV) (hlt : (decide (d < nt)) = true) (hx : ev (lk E) x = some p) (hp : VPtr (killL S h) p cs) (ht : sliceL cs m t.length = some t)
  (H : ∀ p, VPtr (killL S h) p t → SOpsX P A f nt S cls r ((d, p) :: E) bx h Q) : SOpsX P A f nt S (.A :: cls) (⟨some d, none, .fa x m⟩ :: r) E bx h Q :=
 x_A (R := fun E' bx' h1 => ∃ p, VPtr (killL S h) p t ∧ E' = (d, p) :: E ∧ bx' = bx ∧ h1 = killL S h) (o_faV t hlt hx hp ht fun p h1 => o_nil ⟨rfl, p, h1, rfl, rfl, rfl⟩) (by
  rintro _ _ _ ⟨p, h1, rfl, rfl, rfl⟩ _
  rw [joinS_kill]
  exact H p h1)
theorem x_ia0 {α : Type} {R : Heap → List AV → α → Prop} {l : List α} {d s : Nat} {x i : SX} {r : List SO} {v : AV} {k : IntKind} {z : Nat} (hlt : (decide (d < nt)) = true) (hx : ev (lk E) x = some v) (hi : ev (lk E) i = some (.int k (z : Int))) (hv : Sl R s h v l) (hz : z < l.length)
  (H : ∀ p c, VPtr h p c → R h c l[z] → c.length = s → SOpsX P A f nt [] cls r ((d, p) :: E) bx h Q) : SOpsX P A f nt [] (.A :: cls) (⟨some d, none, .ia x i none s⟩ :: r) E bx h Q :=
 x_iaK hlt hx hi (by rw [killL_nil]; exact hv) hz fun p c h1 h2 h3 => H p c (by rwa [killL_nil] at h1) (by rwa [killL_nil] at h2) h3
theorem x_fa0 {d m : Nat} {x : SX} {r : List SO} {p : AV} {cs : List AV} (t : List AV) (hlt : (decide (d < nt)) = true) (hx : ev (lk E) x = some p) (hp : VPtr h p cs) (ht : sliceL cs m t.length = some t)
  (H : ∀ p, VPtr h p t → SOpsX P A f nt [] cls r ((d, p) :: E) bx h Q) : SOpsX P A f nt [] (.A :: cls) (⟨some d, none, .fa x m⟩ :: r) E bx h Q :=
 x_faK t hlt hx (by rw [killL_nil]; exact hp) ht fun p h1 => H p (by rwa [killL_nil] at h1)
theorem x_iaP0 {d s m : Nat} {x i : SX} {r : List SO} {p : AV} {cs : List AV} {k : IntKind} {z : Int} (t : List AV) (hlt : (decide (d < nt)) = true) (hx : ev (lk E) x = some p) (hi : ev (lk E) i = some (.int k z)) (hp : VPtr h p cs) (h1 : 0 ≤ z) (h2 : z < m) (ht : sliceL cs (z.toNat * s) t.length = some t)
  (H : ∀ p, VPtr h p t → SOpsX P A f nt [] cls r ((d, p) :: E) bx h Q) : SOpsX P A f nt [] (.A :: cls) (⟨some d, none, .ia x i (some m) s⟩ :: r) E bx h Q :=
 x_iaPK t hlt hx hi (by rw [killL_nil]; exact hp) h1 h2 ht fun p h1 => H p (by rwa [killL_nil] at h1)
theorem x_look0 {d : Nat} {x : SX} {args : List SX} {r : List SO} {g : Nat} {first cap vs : List AV} {v : AV} (hlt : (decide (d < nt)) = true) (hx : ev (lk E) x = some (.fn g first cap)) (ha : evS (lk E) args = some vs)
  (hc : Looks P A g (first ++ vs ++ cap) h v) (H : ∀ h', Ext h h' → SOpsX P A f nt [] cls r ((d, v) :: E) bx h' Q) : SOpsX P A f nt [] (.A :: cls) (⟨some d, none, .call x args⟩ :: r) E bx h Q :=
 x_lookA hlt hx ha (by rw [killL_nil]; exact hc) H
end
end Go.Abs
