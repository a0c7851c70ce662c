/- Boxes of a call: a list of objects beside the heap. -/
import Derived.Test.YtdglniabnomneaaGreatAbsSlimJ
namespace Go.Abs

def hset (hb : Heap) : List (Nat × AObj) → Heap
  | [] => hb
  | (i, o) :: L => upd (hset hb L) i (some o)

def Dis (hb : Heap) : List (Nat × AObj) → Prop
  | [] => True
  | (i, _) :: L => hset hb L i = none ∧ Dis hb L

theorem dis_nil {hb : Heap} : Dis hb [] := trivial

theorem hset_get {hb : Heap} : ∀ {L : List (Nat × AObj)} {k id : Nat} {o : AObj}, Dis hb L → L[k]? = some (id, o) → hset hb L id = some o
  | [], _, _, _, _, h => by simp at h
  | (i, o') :: L, 0, id, o, _, h => by
    simp only [List.getElem?_cons_zero, Option.some.injEq, Prod.mk.injEq] at h
    obtain ⟨rfl, rfl⟩ := h
    simp [hset, upd]
  | (i, o') :: L, k + 1, id, o, hD, h => by
    have := hset_get hD.2 (k := k) (by simpa using h)
    have hne : id ≠ i := by
      intro e
      subst e
      rw [hD.1] at this
      cases this
    simp only [hset, upd, if_neg hne, this]

/- an object is put in another one's place -/
theorem hset_ren {hb : Heap} : ∀ {L : List (Nat × AObj)} {k id j : Nat} {o o' : AObj}, Dis hb L → L[k]? = some (id, o) → (hset hb L j = none ∨ j = id) →
    upd (upd (hset hb L) id none) j (some o') = hset hb (L.set k (j, o')) ∧ Dis hb (L.set k (j, o'))
  | [], _, _, _, _, _, _, h, _ => by simp at h
  | (i, o1) :: L, 0, id, j, o, o', hD, h, hj => by
    simp only [List.getElem?_cons_zero, Option.some.injEq, Prod.mk.injEq] at h
    obtain ⟨rfl, rfl⟩ := h
    simp only [List.set_cons_zero, hset]
    have e : upd (upd (hset hb L) i (some o1)) i none = hset hb L := by
      funext m
      unfold upd
      split
      · rename_i e; rw [e, hD.1]
      · rfl
    rw [e]
    refine ⟨rfl, ?_, hD.2⟩
    rcases hj with hj | rfl
    · by_cases e : j = i
      · rw [e]; exact hD.1
      · simpa [hset, upd, e] using hj
    · exact hD.1
  | (i, o1) :: L, k + 1, id, j, o, o', hD, h, hj => by
    have h' : L[k]? = some (id, o) := by simpa using h
    have g := hset_get hD.2 h'
    have hne : id ≠ i := by
      intro e
      subst e
      rw [hD.1] at g
      cases g
    have hji : j ≠ i := by
      intro e
      subst e
      rcases hj with hj | rfl
      · simp [hset, upd] at hj
      · exact hne rfl
    have hj' : hset hb L j = none ∨ j = id := by
      rcases hj with hj | hj
      · left; simpa [hset, upd, hji] using hj
      · exact .inr hj
    obtain ⟨e1, e2⟩ := hset_ren (o' := o') hD.2 h' hj'
    simp only [List.set_cons_succ, hset]
    refine ⟨?_, ?_, e2⟩
    · rw [← e1]
      funext m
      unfold upd
      by_cases a : m = j
      · subst a; simp [hji]
      · by_cases b : m = i
        · subst b; simp [hji, Ne.symm hne, a]
        · simp [a, b]
    · rw [← e1]
      simp [upd, Ne.symm hji, Ne.symm hne, hD.1]

theorem hset_set {hb : Heap} {L : List (Nat × AObj)} {k id : Nat} {o o' : AObj} (hD : Dis hb L) (h : L[k]? = some (id, o)) : upd (hset hb L) id (some o') = hset hb (L.set k (id, o')) ∧ Dis hb (L.set k (id, o')) := by
  have := hset_ren (o' := o') hD h (.inr rfl)
  rwa [upd_upd] at this

section
variable {P : Program} {A : Ann} {f nt : Nat} {E : Env} {bx : List Nat} {hb : Heap} {L : List (Nat × AObj)} {Q : AX → Env → List Nat → Heap → Prop} {h0 : Heap} {q : Nat}

theorem o_hboxL {d : Nat} {esc : Bool} {x : SX} {r : List SO} {v : AV} (hD : Dis hb L) (hlt : (decide (d < nt)) = true) (hx : ev (lk E) x = some v) (ho : v.cells.all AV.one = true)
    (H : ∀ i, Dis hb ((i, .cells v.cells) :: L) → SOps P A f nt h0 (q - 1) r ((d, .ptr i 0) :: E) (if esc then bx else i :: bx) (hset hb ((i, .cells v.cells) :: L)) Q) : SOps P A f nt h0 q (⟨some d, none, .hbox esc x⟩ :: r) E bx (hset hb L) Q :=
  o_hbox hlt hx ho fun i hi => H i ⟨hi, hD⟩

theorem o_alcL {d : Nat} {esc : Bool} {z : List AV} {r : List SO} (hD : Dis hb L) (hlt : (decide (d < nt)) = true)
    (H : ∀ i, Dis hb ((i, .cells z) :: L) → SOps P A f nt h0 (q - 1) r ((d, .ptr i 0) :: E) (if esc then bx else i :: bx) (hset hb ((i, .cells z) :: L)) Q) : SOps P A f nt h0 q (⟨some d, none, .alc esc z⟩ :: r) E bx (hset hb L) Q :=
  o_alc hlt fun i hi => H i ⟨hi, hD⟩

theorem o_stL {dst : Option Nat} {x y : SX} {m : Nat} {r : List SO} {id off : Nat} {v : AV} {cs cs' : List AV} (k : Nat) (hD : Dis hb L) (hq : q = 0) (hd : dstOk' nt dst = true) (hx : ev (lk E) x = some (.ptr id off)) (hk : L[k]? = some (id, .cells cs)) (hy : ev (lk E) y = some v) (hm : v.cells.length = m) (ho : v.cells.all AV.one = true)
    (hs' : spliceL cs off v.cells = some cs') (H : Dis hb (L.set k (id, .cells cs')) → SOps P A f nt h0 0 r (undefE dst E) bx (hset hb (L.set k (id, .cells cs'))) Q) : SOps P A f nt h0 q (⟨dst, none, .st x y m⟩ :: r) E bx (hset hb L) Q := by
  obtain ⟨e1, e2⟩ := hset_set (o' := .cells cs') hD hk
  exact o_st hq hd hx hy hm ho (hset_get hD hk) hs' (e1 ▸ H e2)

theorem o_ldL {d : Nat} {x : SX} {r : List SO} {id off : Nat} {cs : List AV} {v : AV} (k : Nat) (hD : Dis hb L) (hq : q = 0) (hlt : (decide (d < nt)) = true) (hx : ev (lk E) x = some (.ptr id off)) (hk : L[k]? = some (id, .cells cs)) (hv : cs[off]? = some v)
    (H : SOps P A f nt h0 (q - 1) r ((d, v) :: E) bx (hset hb L) Q) : SOps P A f nt h0 q (⟨some d, none, .ld x none⟩ :: r) E bx (hset hb L) Q :=
  o_ldh hlt hx (hset_get hD hk) (fun h => by omega) hv H
theorem o_ldQ {d : Nat} {x : SX} {r : List SO} {id off : Nat} {cs : List AV} {v : AV} (k : Nat) (hD : Dis hb L) (hlt : (decide (d < nt)) = true) (hx : ev (lk E) x = some (.ptr id off)) (hk : L[k]? = some (id, .cells cs)) (hv : cs[off]? = some v)
    (H : SOps P A f nt (hset hb L) (q - 1) r ((d, v) :: E) bx (hset hb L) Q) : SOps P A f nt (hset hb L) q (⟨some d, none, .ld x none⟩ :: r) E bx (hset hb L) Q :=
  o_ldh hlt hx (hset_get hD hk) (fun _ => by rw [hset_get hD hk]; simp) hv H
theorem o_ldnL {d m : Nat} {x : SX} {r : List SO} {id off : Nat} {cs l : List AV} (k : Nat) (hD : Dis hb L) (hq : q = 0) (hlt : (decide (d < nt)) = true) (hx : ev (lk E) x = some (.ptr id off)) (hk : L[k]? = some (id, .cells cs)) (hv : sliceL cs off m = some l)
    (H : SOps P A f nt h0 (q - 1) r ((d, .agg l) :: E) bx (hset hb L) Q) : SOps P A f nt h0 q (⟨some d, none, .ld x (some m)⟩ :: r) E bx (hset hb L) Q :=
  o_ldhn hlt hx (hset_get hD hk) (fun h => by omega) hv H
theorem o_ldnQ {d m : Nat} {x : SX} {r : List SO} {id off : Nat} {cs l : List AV} (k : Nat) (hD : Dis hb L) (hlt : (decide (d < nt)) = true) (hx : ev (lk E) x = some (.ptr id off)) (hk : L[k]? = some (id, .cells cs)) (hv : sliceL cs off m = some l)
    (H : SOps P A f nt (hset hb L) (q - 1) r ((d, .agg l) :: E) bx (hset hb L) Q) : SOps P A f nt (hset hb L) q (⟨some d, none, .ld x (some m)⟩ :: r) E bx (hset hb L) Q :=
  o_ldhn hlt hx (hset_get hD hk) (fun _ => by rw [hset_get hD hk]; simp) hv H

theorem o_hbsL {d : Nat} {z cs : List AV} {s n : Nat} {ps : List (Nat × Nat × SX)} {r : List SO} (hD : Dis hb L) (hlt : (decide (d < nt)) = true) (hf : fillS (lk E) z ps = some cs) (ho : cs.all AV.one = true)
    (H : ∀ i, Dis hb ((i, .cells cs) :: L) → SOps P A f nt h0 (q - 1) r ((d, .sl i 0 n s) :: E) bx (hset hb ((i, .cells cs) :: L)) Q) : SOps P A f nt h0 q (⟨some d, none, .hbs z s n ps⟩ :: r) E bx (hset hb L) Q :=
  o_hbs hlt hf ho fun i hi => H i ⟨hi, hD⟩
theorem o_mkL {d s b : Nat} {z : List AV} {x y : SX} {r : List SO} {m : Int} (hD : Dis hb L) (hlt : (decide (d < nt)) = true) (hx : ev (lk E) x = some (.int .i64 m)) (hy : ev (lk E) y = some (.int .i64 m)) (h0m : 0 ≤ m) (hbd : m * (b + 1) ≤ 2 ^ 40)
    (H : ∀ i, Dis hb ((i, .cells (zerosA z (m.toNat * s))) :: L) → SOps P A f nt h0 (q - 1) r ((d, .sl i 0 m.toNat s) :: E) bx (hset hb ((i, .cells (zerosA z (m.toNat * s))) :: L)) Q) : SOps P A f nt h0 q (⟨some d, none, .mks false z s b x y⟩ :: r) E bx (hset hb L) Q :=
  o_mkh hlt hx hy h0m hbd fun i hi => H i ⟨hi, hD⟩

/- an accumulator among the boxes -/
theorem HasSl.dis {s n : Nat} {v : AV} {cs : List AV} {h : Heap} (hD : Dis hb L) (H : HasSl (hset hb L) s v cs n h) : (v = .nil .sl ∧ cs = [] ∧ n = 0 ∧ h = hset hb L) ∨ ∃ i, v = .sl i 0 n s ∧ cs.length = n * s ∧ h = hset hb ((i, .cells cs) :: L) ∧ Dis hb ((i, .cells cs) :: L) := by
  cases H with
  | nil => exact .inl ⟨rfl, rfl, rfl, rfl⟩
  | sl i _ _ hi hl => exact .inr ⟨i, rfl, hl, rfl, hi, hD⟩

end
end Go.Abs
