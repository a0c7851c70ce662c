import Derived.Test.YtmnnmgfjlokmkaaGreatAbsCallY
import Derived.Test.YtmnnmgfjlokmkaaGreatImCrc
namespace Go.Img
open Go.Abs
theorem VSl.num {h h' : Heap} {s s' n n' : Nat} {v : AV} {cs cs' : List AV} (H : VSl h s v cs n) (H' : VSl h' s' v cs' n') : n = n' := by
 cases H <;> cases H' <;> rfl
end Go.Img
namespace Go.Abs
section
variable {P : Program} {A : Ann} {f nt : Nat} {E : Env} {bx : List Nat} {h : Heap} {Q : AX → Env → List Nat → Heap → Prop} {h0 : Heap} {q : Nat}
theorem o_sltW {g : Heap} {d s n : Nat} {x : SX} {lo hi : Option SX} {r : List SO} {v : AV} {cs : List AV} {l m : Int} (hlt : (decide (d < nt)) = true) (hx : ev (lk E) x = some v) (hv : VSl g s v cs n) (hlo : evI (lk E) 0 lo = some l) (hhi : evI (lk E) n hi = some m) (h1 : 0 ≤ l) (h2 : l ≤ m) (h3 : m ≤ n)
  (H : ∀ w, VSl g s w ((cs.take (m.toNat * s)).drop (l.toNat * s)) (m.toNat - l.toNat) → SOps P A f nt h0 (q - 1) r ((d, w) :: E) bx h Q) : SOps P A f nt h0 q (⟨some d, none, .slt x lo hi s⟩ :: r) E bx h Q := by
 have hl := hv.len
 have hb : l.toNat * s ≤ m.toNat * s := Nat.mul_le_mul_right s (by omega)
 have hb2 : m.toNat * s ≤ n * s := Nat.mul_le_mul_right s (by omega)
 have hlen : ((cs.take (m.toNat * s)).drop (l.toNat * s)).length = (m.toNat - l.toNat) * s := by
  rw [List.length_drop, List.length_take, hl, Nat.min_eq_left hb2, Nat.sub_mul]
 cases hv with
 | nil =>
  refine o_val (p := l = 0 ∧ m = 0) hlt (by simp only [sv, hx, hlo]; rw [show ((0 : Nat) : Int) = 0 from rfl] at hhi; rw [hhi]) ⟨by omega, by omega⟩ (H _ ?_)
  have e1 : l.toNat = 0 := by omega
  have e2 : m.toNat = 0 := by omega
  rw [e1, e2]
  simpa using VSl.nil
 | tsl _ _ _ => exact o_val (p := 0 ≤ l ∧ l ≤ m ∧ m ≤ n) hlt (by simp only [sv, hx, hlo, hhi]) ⟨h1, h2, h3⟩ (H _ (.tsl _ _ hlen))
 | sl id off _ os _ hid hc =>
  refine o_val (p := s = s ∧ 0 ≤ l ∧ l ≤ m ∧ m ≤ n) (v := .sl id (off + l.toNat * s) (m.toNat - l.toNat) s) hlt (by simp only [sv, hx, hlo, hhi]) ⟨rfl, h1, h2, h3⟩ (H _ (.sl _ _ _ os _ hid ?_))
  have e : sliceL cs (l.toNat * s) ((m.toNat - l.toNat) * s) = some ((cs.take (m.toNat * s)).drop (l.toNat * s)) := by
   have hsub : (m.toNat - l.toNat) * s = m.toNat * s - l.toNat * s := Nat.sub_mul _ _ _
   rw [sliceL_of (by rw [hsub]; omega), hsub, List.drop_take]
  exact sliceL_sub hc e
end
end Go.Abs
namespace Go.Img
open Go.Abs
structure Rd (g : Heap) (w : Nat) (bs : B) (bad : Bool) (h : Heap) : Prop where
 ext : Ext g h
 fresh : g w = none
 st : ∃ v, h w = some (.cells [v, .bool bad]) ∧ VSl g 1 v (ubs bs) bs.length
inductive Out {α : Type} (p : Pa α) (K : Nat) (bs : B) (a : α) (c : Nat) (bs' : B) : Bool → Bool → Prop where
 | ok (h : p bs = some (a, bs')) (hl : bs'.length < bs.length) (hc : c + 10 * bs'.length ≤ 10 * bs.length) : Out p K bs a c bs' false false
 | bad (bad : Bool) (h : bad = false → p bs = none) (hl : bs'.length ≤ bs.length) (hc : c + 10 * bs'.length ≤ 10 * bs.length + K) : Out p K bs a c bs' bad true
section
variable {α β : Type} {p : Pa α} {K K1 K2 : Nat} {bs bs1 bs2 : B} {a : α} {b : β} {c c1 c2 : Nat} {t t1 t2 : Bool}
theorem Out.len (H : Out p K bs a c bs1 t t1) : bs1.length ≤ bs.length := by
 cases H with
 | ok h hl hc => omega
 | bad _ h hl hc => exact hl
theorem Out.cost (H : Out p K bs a c bs1 t t1) : c + 10 * bs1.length ≤ 10 * bs.length + K := by
 cases H with
 | ok h hl hc => omega
 | bad _ h hl hc => exact hc
theorem Out.bind {f : α → Pa β} (H : Out p K1 bs a c1 bs1 t t1) (G : Out (f a) K2 bs1 b c2 bs2 t1 t2) : Out (pBind p f) (K1 + K2) bs b (c1 + c2) bs2 t t2 := by
 cases H with
 | ok h hl hc =>
  have e : pBind p f bs = f a bs1 := by
   unfold pBind
   rw [h]
  cases G with
  | ok h' hl' hc' => exact .ok (e.trans h') (by omega) (by omega)
  | bad _ h' hl' hc' => exact .bad _ (fun _ => e.trans (h' rfl)) (by omega) (by omega)
 | bad _ h hl hc =>
  cases G with
  | bad _ h' hl' hc' =>
   refine .bad _ (fun ht => ?_) (by omega) (by omega)
   unfold pBind
   rw [h ht]
theorem Out.map {f : α → β} (H : Out p K bs a c bs1 t t1) : Out (pMap f p) K bs (f a) c bs1 t t1 := by
 cases H with
 | ok h hl hc =>
  refine .ok ?_ hl hc
  unfold pMap
  rw [h]
  rfl
 | bad _ h hl hc =>
  refine .bad _ (fun ht => ?_) hl hc
  unfold pMap
  rw [h ht]
  rfl
theorem Out.as {c' K' : Nat} (H : Out p K bs a c bs1 t t1) (hc : c' = c) (hK : K ≤ K') : Out p K' bs a c' bs1 t t1 := by
 subst hc
 cases H with
 | ok h hl hc => exact .ok h hl hc
 | bad _ h hl hc => exact .bad _ h hl (by omega)
end
structure RdR {α : Type} (p : Pa α) (K : Nat) (cost : α → Nat) (Rv : Heap → AV → α → Prop) (g : Heap) (w : Nat) (bs : B) (t : Bool) (h : Heap) (v : AV) (h' G : Heap) (a : α) (bs' : B) (t' : Bool) : Prop where
 ext : Ext g G
 rd : Rd G w bs' t' h'
 val : Rv G v a
 out : Out p K bs a (cost a) bs' t t'
 frame : ∀ id o, id ≠ w → h id = some o → h' id = some o
 new : ∀ id, h id ≠ none → g id = none → G id = none
def Reads {α : Type} (P : Program) (A : Ann) (f : Nat) (args : List AV) (w : Nat) (p : Pa α) (K : Nat) (cost : α → Nat) (Rv : Heap → AV → α → Prop) : Prop :=
 ∀ (g : Heap) (bs : B) (t : Bool) (h : Heap), bs.length ≤ 1048576 → Rd g w bs t h → HCallC P A f args h fun v h' => ∃ G a bs' t', RdR p K cost Rv g w bs t h v h' G a bs' t'
theorem Rd.up {g h h' : Heap} {w : Nat} {bs : B} {t : Bool} (H : Rd g w bs t h) (hx : Ext h h') : Rd g w bs t h' := by
 obtain ⟨v, h1, h2⟩ := H.st
 exact ⟨H.ext.trans hx, H.fresh, v, hx _ _ h1, h2⟩
theorem Rd.grow {g G h : Heap} {w : Nat} {bs : B} {t : Bool} (H : Rd g w bs t h) (hx : Ext g G) (hG : Ext G h) (hw : G w = none) : Rd G w bs t h := by
 obtain ⟨v, h1, h2⟩ := H.st
 exact ⟨hG, hw, v, h1, h2.mono hx⟩
theorem Rd.set {g h : Heap} {w b : Nat} {bs : B} {t : Bool} {o : AObj} (H : Rd g w bs t h) (hg : g b = none) (hb : b ≠ w) : Rd g w bs t (upd h b (some o)) := by
 obtain ⟨v, h1, h2⟩ := H.st
 refine ⟨fun id o' e => ?_, H.fresh, v, ?_, h2⟩
 ·rw [upd_ne (fun hid => by rw [hid, hg] at e; cases e)]
  exact H.ext id o' e
 ·rw [upd_ne (Ne.symm hb)]
  exact h1
theorem Rd.kill {g h : Heap} {w : Nat} {bs : B} {t : Bool} {bx : List Nat} (H : Rd g w bs t h) (hb : ∀ b ∈ bx, g b = none ∧ b ≠ w) : Rd g w bs t (killL bx h) := by
 obtain ⟨v, h1, h2⟩ := H.st
 refine ⟨H.ext.kill fun i hi => (hb i hi).1, H.fresh, v, ?_, h2⟩
 unfold killL
 rw [if_neg]
 ·exact h1
 ·intro hc
  exact (hb w (by simpa using hc)).2 rfl
theorem Rd.live {g h : Heap} {w : Nat} {bs : B} {t : Bool} (H : Rd g w bs t h) : h w ≠ none := by
 obtain ⟨v, h1, _⟩ := H.st
 rw [h1]
 simp
section
variable {α : Type} {p : Pa α} {K : Nat} {cost : α → Nat} {Rv : Heap → AV → α → Prop} {g h h1 : Heap} {w : Nat} {bs bs' : B} {t : Bool} {u u' v : AV} {a : α}
theorem Rd.box {b : Bool} (H : Rd g w bs t h) (hx : Ext h h1) (hu : VSl g 1 u (ubs bs') bs'.length) : Rd g w bs' b (upd h1 w (some (.cells [u, .bool b]))) := by
 refine ⟨fun id o e => ?_, H.fresh, u, upd_same, hu⟩
 rw [upd_ne (fun hid => by rw [hid, H.fresh] at e; cases e)]
 exact hx _ _ (H.ext id o e)
theorem RdR.stop (H : Rd g w bs t h) (hu : VSl g 1 u (ubs bs) bs.length) (hx : Ext h h1) (hp : t = false → p bs = none) (hR : Rv g v a) (hc : cost a ≤ K) : RdR p K cost Rv g w bs t h v (upd h1 w (some (.cells [u, .bool true]))) g a bs true :=
 ⟨.refl, H.box hx hu, hR, .bad t hp (Nat.le_refl _) (by omega), fun id o hid e => by rw [upd_ne hid]; exact hx _ _ e, fun _ _ h => h⟩
theorem RdR.go (H : Rd g w bs false h) (hu : VSl g 1 u (ubs bs') bs'.length) (hx : Ext h h1) (hp : p bs = some (a, bs')) (hR : Rv g v a) (hl : bs'.length < bs.length) (hc : cost a + 10 * bs'.length ≤ 10 * bs.length) : RdR p K cost Rv g w bs false h v (upd h1 w (some (.cells [u, .bool false]))) g a bs' false :=
 ⟨.refl, H.box hx hu, hR, .ok hp hl hc, fun id o hid e => by rw [upd_ne hid]; exact hx _ _ e, fun _ _ h => h⟩
variable {β : Type} {f : α → β} {cost' : β → Nat} {Rv' : Heap → AV → β → Prop} {h' G : Heap} {t' : Bool} {v' : AV}
theorem RdR.map (H : RdR p K cost Rv g w bs t h v h' G a bs' t') (hv : Rv' G v' (f a)) (hc : cost' (f a) ≤ 10) : RdR (pMap f p) 10 cost' Rv' g w bs t h v' h' G (f a) bs' t' := by
 refine ⟨H.ext, H.rd, hv, ?_, H.frame, H.new⟩
 cases H.out with
 | ok e hl _ => exact .ok (by unfold pMap; rw [e]; rfl) hl (by omega)
 | bad _ e hl _ => exact .bad _ (fun ht => by unfold pMap; rw [e ht]; rfl) hl (by omega)
end
def REl {α : Type} (R : Heap → List AV → α → Prop) (s : Nat) (W : α → Prop) : Heap → AV → α → Prop := fun h v a => R h v.cells a ∧ v.cells.length = s ∧ v.cells.all AV.one = true ∧ W a
def RLs {α : Type} (R : Heap → List AV → α → Prop) (s : Nat) (W : α → Prop) : Heap → AV → List α → Prop := fun h v l => Sl R s h v l ∧ l.length ≤ 1048577 ∧ ∀ a ∈ l, W a
structure LA {α : Type} (R : Heap → List AV → α → Prop) (s : Nat) (W : α → Prop) (w : Nat) (h0 g G h' : Heap) (vv : AV) (l : List α) : Prop where
 ext : Ext g G
 frame : ∀ id o, id ≠ w → h0 id = some o → h' id = some o
 new : ∀ id, h0 id ≠ none → g id = none → G id = none
 own : (vv = .nil .sl ∧ l = []) ∨ ∃ i cs, vv = .sl i 0 l.length s ∧ G i = none ∧ i ≠ w ∧ h0 i = none ∧ h' i = some (.cells cs) ∧ Chunks (R G) s cs l ∧ cs.all AV.one = true
 all : ∀ a ∈ l, W a
section
variable {α β : Type} {R : Heap → List AV → α → Prop} {s : Nat} {W : α → Prop} {w : Nat} {h0 g G h' h2 G2 : Heap} {vv v : AV} {l : List α} {a : α} {bs bs1 bs2 bs3 : B} {t t1 t2 : Bool} {p : Pa α} {K : Nat} {cost : α → Nat}
theorem LA.start {q : Pa β} {K' : Nat} {c' : β → Nat} {Rv : Heap → AV → β → Prop} {b : β} {v : AV} (H : RdR q K' c' Rv g w bs t h0 v h' G b bs1 t1) : LA R s W w h0 g G h' (.nil .sl) [] :=
 ⟨H.ext, H.frame, H.new, .inl ⟨rfl, rfl⟩, by simp⟩
theorem minus_ne {h : Heap} {i o n s id : Nat} (hi : id ≠ i) : minus h (.sl i o n s) id = h id := upd_ne hi
theorem LA.step (hR : Mono R) (H : LA R s W w h0 g G h' vv l) (rd : Rd G w bs t h') (R2 : RdR p K cost (REl R s W) G w bs t h' v h2 G2 a bs2 t2) :
  ∃ cs, cs.all AV.one = true ∧ OSl (minus h2 vv) s vv cs l.length h2 ∧ ∀ v' h3, OSl (minus h2 vv) s v' (cs ++ v.cells) (l.length + 1) h3 → LA R s W w h0 g G2 h3 v' (l ++ [a]) ∧ Rd G2 w bs2 t2 h3 := by
 obtain ⟨r1, r2, r3, r4⟩ := R2.val
 have hall : ∀ x ∈ l ++ [a], W x := fun x hx => by
  rcases List.mem_append.1 hx with hx | hx
  ·exact H.all x hx
  ·rw [List.mem_singleton.1 hx]; exact r4
 have fr : ∀ id o, id ≠ w → h0 id = some o → h2 id = some o := fun id o hid e => R2.frame id o hid (H.frame id o hid e)
 have nw : ∀ id, h0 id ≠ none → g id = none → G2 id = none := fun id h1 h2 => by
  by_cases hw : id = w
  ·rw [hw]; exact R2.rd.fresh
  ·refine R2.new id ?_ (H.new id h1 h2)
   cases e : h0 id with
   | none => exact absurd e h1
   | some o => rw [H.frame id o hw e]; simp
 rcases H.own with ⟨rfl, rfl⟩ | ⟨i, cs, rfl, g1, g2, g3, g4, g5, g6⟩
 ·refine ⟨[], rfl, .nil .refl, fun v' h3 O => ?_⟩
  have O : OSl h2 s v' v.cells 1 h3 := O
  have rd3 := R2.rd.up O.ext
  rcases O.own with ⟨_, _, h4⟩ | ⟨j, rfl, h4, h5, h6⟩
  ·omega
  refine ⟨⟨H.ext.trans R2.ext, fun id o hid e => O.ext _ _ (fr id o hid e), nw, .inr ⟨j, v.cells, rfl, ?_, ?_, ?_, h5, .one r2 r1, r3⟩, hall⟩, rd3⟩
  ·cases e : G2 j with
   | none => rfl
   | some o => rw [R2.rd.ext _ _ e] at h4; cases h4
  ·rintro rfl
   exact R2.rd.live h4
  ·cases e : h0 j with
   | none => rfl
   | some o =>
    by_cases hw : j = w
    ·subst hw; exact absurd h4 R2.rd.live
    ·rw [fr j o hw e] at h4; cases h4
 ·have hi2 := R2.frame i _ g2 g4
  have gi2 : G2 i = none := R2.new i (by rw [g4]; simp) g1
  refine ⟨cs, g6, ⟨fun id o e => ?_, .inr ⟨i, rfl, upd_same, hi2, g5.len⟩⟩, fun v' h3 O => ?_⟩
  ·by_cases hid : id = i
   ·subst hid
    rw [show minus h2 (.sl id 0 l.length s) id = none from upd_same] at e
    cases e
   ·rwa [minus_ne hid] at e
  ·rcases O.own with ⟨_, _, h4⟩ | ⟨j, rfl, h4, h5, h6⟩
   ·omega
   have keep : ∀ id o, id ≠ i → h2 id = some o → h3 id = some o := fun id o hid e => O.ext id o (by rw [minus_ne hid]; exact e)
   have hj : j = i ∨ h2 j = none := by
    by_cases hij : j = i
    ·exact .inl hij
    ·rw [minus_ne hij] at h4; exact .inr h4
   refine ⟨⟨H.ext.trans R2.ext, fun id o hid e => keep id o (fun hc => by rw [hc, g3] at e; cases e) (fr id o hid e), nw, .inr ⟨j, cs ++ v.cells, by rw [List.length_append]; rfl, ?_, ?_, ?_, h5, (g5.imp fun c x => hR _ _ c x R2.ext).append (.one r2 r1), by rw [List.all_append, g6, r3]; rfl⟩, hall⟩, ?_⟩
   ·rcases hj with rfl | hj
    ·exact gi2
    ·cases e : G2 j with
     | none => rfl
     | some o => rw [R2.rd.ext _ _ e] at hj; cases hj
   ·rintro rfl
    rcases hj with rfl | hj
    ·exact g2 rfl
    ·exact R2.rd.live hj
   ·rcases hj with rfl | hj
    ·exact g3
    ·cases e : h0 j with
     | none => rfl
     | some o =>
      by_cases hw : j = w
      ·subst hw; exact absurd hj R2.rd.live
      ·rw [fr j o hw e] at hj; cases hj
   ·obtain ⟨u, u1, u2⟩ := R2.rd.st
    exact ⟨fun id o e => keep id o (fun hc => by rw [hc, gi2] at e; cases e) (R2.rd.ext id o e), R2.rd.fresh, u, keep w _ (Ne.symm g2) u1, u2⟩
theorem LA.done (hR : Mono R) (H : LA R s W w h0 g G h' vv l) (rd : Rd G w bs t h') : ∃ G', Ext g G' ∧ Rd G' w bs t h' ∧ Sl R s G' vv l ∧ ∀ id, h0 id ≠ none → g id = none → G' id = none := by
 rcases H.own with ⟨rfl, rfl⟩ | ⟨i, cs, rfl, g1, g2, g3, g4, g5, g6⟩
 ·exact ⟨G, H.ext, rd, .nil, H.new⟩
 ·have hx : Ext G (upd G i (some (.cells cs))) := .upd g1
  refine ⟨_, H.ext.trans hx, rd.grow hx (fun id o e => ?_) (by rw [upd_ne (Ne.symm g2)]; exact rd.fresh), ⟨cs, .sl i 0 _ cs _ upd_same (sliceL_all g5.len), g5.imp fun c x => hR _ _ c x hx⟩, fun id h1 h2 => ?_⟩
  ·unfold upd at e
   split at e
   ·rename_i hid
    rw [hid, g4, e]
   ·exact rd.ext id o e
  ·rw [upd_ne (fun hc => by rw [hc] at h1; exact h1 g3)]
   exact H.new id h1 h2
structure LO (p : Pa α) (K : Nat) (e : α → B) (n : Int) (bs1 : B) (t1 : Bool) (l : List α) (k : Int) (bs : B) (t : Bool) : Prop where
 hk : k = n - l.length
 hl : l.length ≤ n.toNat
 good : t = false → t1 = false ∧ (∀ j, pRep p (l.length + j) bs1 = (pRep p j bs).map fun x => (l ++ x.1, x.2)) ∧ (l.flatMap e).length + 10 * bs.length ≤ 10 * bs1.length ∧ l.length + bs.length ≤ bs1.length
 wrong : t = true → (t1 = false → pRep p n.toNat bs1 = none) ∧ (l.flatMap e).length + 10 * bs.length ≤ 10 * bs1.length + K ∧ l.length + bs.length ≤ bs1.length + 1 ∧ bs.length ≤ bs1.length
theorem LO.start {e : α → B} {n : Int} : LO p K e n bs1 t1 [] n bs1 t1 := by
 refine ⟨by simp, by simp, fun h => ⟨h, fun j => ?_, by simp, by simp⟩, fun h => ⟨fun h' => (by rw [h] at h'; cases h'), by simp, by simp, Nat.le_refl _⟩⟩
 rw [List.length_nil, Nat.zero_add]
 cases pRep p j bs1 <;> simp
theorem LO.len {e : α → B} {n k : Int} (H : LO p K e n bs1 t1 l k bs t) : bs.length ≤ bs1.length + 1 ∧ l.length ≤ bs1.length + 1 := by
 cases t with
 | false => have := (H.good rfl).2.2.2; omega
 | true => have := (H.wrong rfl).2.2.1; omega
theorem LO.step {e : α → B} {n k : Int} (H : LO p K e n bs1 t1 l k bs false) (h0 : 0 < k) (O : Out p K bs a (e a).length bs2 false t2) : LO p K e n bs1 t1 (l ++ [a]) (k - 1) bs2 t2 := by
 obtain ⟨q1, q2, q3, q4⟩ := H.good rfl
 have hk := H.hk
 have hl := H.hl
 refine ⟨by rw [List.length_append, List.length_singleton]; omega, by rw [List.length_append, List.length_singleton]; omega, ?_, ?_⟩
 ·rintro rfl
  cases O with
  | ok h1 h2 h3 =>
   refine ⟨q1, fun j => ?_, by simp only [List.flatMap_append, List.flatMap_singleton, List.length_append]; omega, by rw [List.length_append, List.length_singleton]; omega⟩
   rw [List.length_append, List.length_singleton, Nat.add_assoc, q2, Nat.add_comm 1 j]
   show (pBind p (fun a => pMap (a :: ·) (pRep p j)) bs).map _ = _
   unfold pBind pMap
   rw [h1]
   simp only
   cases pRep p j bs2 <;> simp
 ·rintro rfl
  cases O with
  | bad _ h1 h2 h3 =>
   refine ⟨fun _ => ?_, by simp only [List.flatMap_append, List.flatMap_singleton, List.length_append]; omega, by rw [List.length_append, List.length_singleton]; omega, by omega⟩
   obtain ⟨j, hj⟩ : ∃ j, n.toNat = l.length + (j + 1) := ⟨n.toNat - l.length - 1, by omega⟩
   rw [hj, q2]
   show (pBind p (fun a => pMap (a :: ·) (pRep p j)) bs).map _ = _
   unfold pBind
   rw [h1 rfl]
   rfl
theorem LO.out {e : α → B} {n k : Int} {c : Nat} (O : Out pNum 10 bs3 n c bs1 t t1) (H : LO p K e n bs1 t1 l k bs t2) (h0 : t2 = true ∨ k ≤ 0) (hp : (put l.length).length ≤ 10) : Out (pList p) (K + 10) bs3 l (eList e l).length bs t t2 := by
 have hlen : (eList e l).length = (put l.length).length + (l.flatMap e).length := by unfold eList; rw [List.length_append]
 have hk := H.hk
 have hl := H.hl
 cases t2 with
 | false =>
  obtain ⟨rfl, q2, q3, q4⟩ := H.good rfl
  cases O with
  | ok h1 h2 h3 =>
   refine .ok ?_ (by omega) (by omega)
   show pBind pNum (fun n => pRep p n.toNat) bs3 = _
   unfold pBind
   rw [h1]
   simp only
   have e : n.toNat = l.length + 0 := by
    rcases h0 with h0 | h0
    ·cases h0
    ·omega
   rw [e, q2]
   show some (l ++ [], bs) = _
   rw [List.append_nil]
 | true =>
  obtain ⟨q1, q2, q3, q4⟩ := H.wrong rfl
  cases O with
  | ok h1 h2 h3 =>
   refine .bad _ (fun _ => ?_) (by omega) (by omega)
   show pBind pNum (fun n => pRep p n.toNat) bs3 = _
   unfold pBind
   rw [h1]
   exact q1 rfl
  | bad _ h1 h2 h3 =>
   refine .bad _ (fun ht => ?_) ?_ (by omega)
   ·show pBind pNum (fun n => pRep p n.toNat) bs3 = _
    unfold pBind
    rw [h1 ht]
   ·omega
theorem Reads.val {P : Program} {A : Ann} {f : Nat} {args : List AV} {Rv Rv' : Heap → AV → α → Prop} (H : Reads P A f args w p K cost Rv) (hv : ∀ h v a, Rv h v a → Rv' h v a) : Reads P A f args w p K cost Rv' := by
 intro g bs t h hbs hr
 refine (H g bs t h hbs hr).mono ?_
 rintro v h' ⟨G, a, bs', t', r⟩
 exact ⟨G, a, bs', t', r.ext, r.rd, hv _ _ _ r.val, r.out, r.frame, r.new⟩
end
structure Ch (w : Nat) (h0 g G h' : Heap) (bs : B) (t : Bool) (bx : List Nat) : Prop where
 ext : Ext g G
 rd : Rd G w bs t h'
 frame : ∀ id o, id ≠ w → h0 id = some o → h' id = some o
 new : ∀ id, h0 id ≠ none → g id = none → G id = none
 bxs : ∀ b ∈ bx, h0 b = none ∧ G b = none ∧ b ≠ w
section
variable {α : Type} {w : Nat} {h0 g G h' h2 G2 : Heap} {v : AV} {a : α} {bs bs1 bs2 : B} {t t1 t2 : Bool} {p : Pa α} {K : Nat} {cost : α → Nat} {Rv : Heap → AV → α → Prop} {bx : List Nat}
theorem Ch.start (H : Rd g w bs t h0) : Ch w h0 g g h0 bs t [] := ⟨.refl, H, fun _ _ _ e => e, fun _ _ e => e, by simp⟩
theorem Ch.box {b : Nat} {o : AObj} (H : Ch w h0 g G h' bs t bx) (hb : h' b = none) : Ch w h0 g G (upd h' b (some o)) bs t (b :: bx) := by
 have hw : b ≠ w := by rintro rfl; exact H.rd.live hb
 have hG : G b = none := by
  cases e : G b with
  | none => rfl
  | some o => rw [H.rd.ext b o e] at hb; cases hb
 refine ⟨H.ext, H.rd.set hG hw, fun id o' hid e => ?_, H.new, fun c hc => ?_⟩
 ·have := H.frame id o' hid e
  rwa [upd_ne (fun hc => by rw [hc, hb] at this; cases this)]
 ·rcases List.mem_cons.1 hc with rfl | hc
  ·refine ⟨?_, hG, hw⟩
   cases e : h0 c with
   | none => rfl
   | some o => rw [H.frame c o hw e] at hb; cases hb
  ·exact H.bxs c hc
theorem Ch.call (H : Ch w h0 g G h' bs t bx) (R : RdR p K cost Rv G w bs t h' v h2 G2 a bs2 t2) (hl : ∀ b ∈ bx, h' b ≠ none) : Ch w h0 g G2 h2 bs2 t2 bx := by
 refine ⟨H.ext.trans R.ext, R.rd, fun id o hid e => R.frame id o hid (H.frame id o hid e), fun id h1 h2 => ?_, fun b hb => ⟨(H.bxs b hb).1, R.new b (hl b hb) (H.bxs b hb).2.1, (H.bxs b hb).2.2⟩⟩
 by_cases hw : id = w
 ·rw [hw]; exact R.rd.fresh
 ·refine R.new id ?_ (H.new id h1 h2)
  cases e : h0 id with
  | none => exact absurd e h1
  | some o => rw [H.frame id o hw e]; simp
theorem Ch.keep {b : Nat} {o : AObj} (H : Ch w h0 g G h' bs t bx) (R : RdR p K cost Rv G w bs t h' v h2 G2 a bs2 t2) (hb : b ∈ bx) (e : h' b = some o) : h2 b = some o := R.frame b o (H.bxs b hb).2.2 e
theorem Ch.set {b : Nat} {o : AObj} (H : Ch w h0 g G h' bs t bx) (hb : b ∈ bx) : Ch w h0 g G (upd h' b (some o)) bs t bx := by
 obtain ⟨h1, h2, h3⟩ := H.bxs b hb
 exact ⟨H.ext, H.rd.set h2 h3, fun id o' hid e => by rw [upd_ne (fun hc => by rw [hc, h1] at e; cases e)]; exact H.frame id o' hid e, H.new, H.bxs⟩
theorem Ch.fin (H : Ch w h0 g G h' bs1 t1 bx) (hv : Rv G v a) (ho : Out p K bs a (cost a) bs1 t t1) : RdR p K cost Rv g w bs t h0 v (killL bx h') G a bs1 t1 := by
 refine ⟨H.ext, H.rd.kill fun b hb => ⟨(H.bxs b hb).2.1, (H.bxs b hb).2.2⟩, hv, ho, fun id o hid e => ?_, H.new⟩
 unfold killL
 rw [if_neg]
 ·exact H.frame id o hid e
 ·intro hc
  rw [(H.bxs id (by simpa using hc)).1] at e
  cases e
end
end Go.Img
