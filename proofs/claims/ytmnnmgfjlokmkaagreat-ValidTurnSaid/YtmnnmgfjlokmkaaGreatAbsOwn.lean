import Derived.Test.YtmnnmgfjlokmkaaGreatAbsCallX
namespace Go.Abs
def minus (h : Heap) (v : AV) : Heap := match v with
 | .sl i _ _ _ => upd h i none
 | _ => h
structure OSl (hb : Heap) (s : Nat) (v : AV) (cs : List AV) (n : Nat) (h : Heap) : Prop where
 ext : Ext hb h
 own : (v = .nil .sl ∧ cs = [] ∧ n = 0) ∨ ∃ i, v = .sl i 0 n s ∧ hb i = none ∧ h i = some (.cells cs) ∧ cs.length = n * s
theorem OSl.view {hb h : Heap} {s n : Nat} {v : AV} {cs : List AV} (H : OSl hb s v cs n h) : VSl h s v cs n := by
 rcases H.own with ⟨rfl, rfl, rfl⟩ | ⟨i, rfl, _, h2, h3⟩
 ·exact .nil
 ·exact .sl i 0 n cs cs h2 (sliceL_all h3)
theorem OSl.nil {hb h : Heap} {s : Nat} (hx : Ext hb h) : OSl hb s (.nil .sl) [] 0 h := ⟨hx, .inl ⟨rfl, rfl, rfl⟩⟩
theorem OSl.has {hb h : Heap} {s n : Nat} {v : AV} {cs : List AV} (H : OSl hb s v cs n h) : HasSl (minus h v) s v cs n h ∧ Ext hb (minus h v) := by
 rcases H.own with ⟨rfl, rfl, rfl⟩ | ⟨i, rfl, h1, h2, h3⟩
 ·exact ⟨.nil, H.ext⟩
 ·constructor
  ·have e : h = upd (upd h i none) i (some (.cells cs)) := by
    rw [upd_upd]
    funext j
    unfold upd
    split
    ·rename_i hj; rw [hj, h2]
    ·rfl
   have := HasSl.sl (hb := upd h i none) (s := s) i cs n upd_same h3
   rw [← e] at this
   exact this
  ·intro id o e
   show upd h i none id = _
   rw [upd_ne (fun hid => by rw [hid, h1] at e; cases e)]
   exact H.ext id o e
theorem OSl.of_has {hb hb' h : Heap} {s n : Nat} {v : AV} {cs : List AV} (H : HasSl hb' s v cs n h) (hx : Ext hb hb') : OSl hb s v cs n h := by
 cases H with
 | nil => exact .nil hx
 | sl i _ _ hi hl =>
  refine ⟨hx.trans (.upd hi), .inr ⟨i, rfl, ?_, upd_same, hl⟩⟩
  cases e : hb i with
  | none => rfl
  | some o => rw [hx _ _ e] at hi; cases hi
theorem OSl.weaken {hb hb' h : Heap} {s n : Nat} {v : AV} {cs : List AV} (H : OSl hb' s v cs n h) (hx : Ext hb hb') : OSl hb s v cs n h := by
 refine ⟨hx.trans H.ext, ?_⟩
 rcases H.own with h0 | ⟨i, h1, h2, h3, h4⟩
 ·exact .inl h0
 ·refine .inr ⟨i, h1, ?_, h3, h4⟩
  cases e : hb i with
  | none => rfl
  | some o => rw [hx _ _ e] at h2; cases h2
section
variable {P : Program} {A : Ann} {f nt : Nat} {E : Env} {bx : List Nat} {h : Heap} {Q : AX → Env → List Nat → Heap → Prop} {h0 : Heap}
theorem o_appO {q d s b : Nat} {x y : SX} {r : List SO} {hb : Heap} {vx vy : AV} {old new : List AV} {l n : Nat} (hq : q = 0) (hlt : (decide (d < nt)) = true) (hx : ev (lk E) x = some vx) (hy : ev (lk E) y = some vy) (H0 : OSl hb s vx old l h) (hsrc : srcOf s h vy = some (new, n))
  (hlen : new.length = n * s) (hone : new.all AV.one = true) (hbd : (l + n) * (b + 1) ≤ 2 ^ 44)
  (H : ∀ v h1, OSl hb s v (old ++ new) (l + n) h1 → Ext (minus h vx) h1 → SOps P A f nt h0 0 r ((d, v) :: E) bx h1 Q) : SOps P A f nt h0 q (⟨some d, none, .app s b x y⟩ :: r) E bx h Q := by
 subst hq
 obtain ⟨g1, g2⟩ := H0.has
 exact o_app hlt hx hy g1 hsrc hlen hone hbd (.inl rfl) (fun h => by omega) fun v h1 hv => H v h1 (.of_has hv g2) hv.ext
theorem o_appsO {q d s b : Nat} {x y : SX} {r : List SO} {hb : Heap} {vx : AV} {old new : List AV} {l n : Nat} {c : List UInt8} (hq : q = 0) (hlt : (decide (d < nt)) = true) (hx : ev (lk E) x = some vx) (hy : ev (lk E) y = some (.str c)) (H0 : OSl hb s vx old l h) (hsrc : srcOf s h (.str c) = some (new, n))
  (hlen : new.length = n * s) (hone : new.all AV.one = true) (hbd : (l + n) * (b + 1) ≤ 2 ^ 44)
  (H : ∀ v h1, OSl hb s v (old ++ new) (l + n) h1 → Ext (minus h vx) h1 → SOps P A f nt h0 0 r ((d, v) :: E) bx h1 Q) : SOps P A f nt h0 q (⟨some d, none, .apps s b x y⟩ :: r) E bx h Q := by
 subst hq
 obtain ⟨g1, g2⟩ := H0.has
 exact o_apps hlt hx hy g1 hsrc hlen hone hbd (.inl rfl) fun v h1 hv => H v h1 (.of_has hv g2) hv.ext
theorem o_iaG {α : Type} {R : Heap → List AV → α → Prop} {l : List α} {g : Heap} {q d s : Nat} {x i : SX} {r : List SO} {v : AV} {k : IntKind} {z : Nat} (hlt : (decide (d < nt)) = true) (hx : ev (lk E) x = some v) (hi : ev (lk E) i = some (.int k (z : Int))) (hg : Ext g h) (hv : Sl R s g v l) (hz : z < l.length)
  (H : ∀ p c, VPtr h p c → R g c l[z] → c.length = s → SOps P A f nt h0 (q - 1) r ((d, p) :: E) bx h Q) : SOps P A f nt h0 q (⟨some d, none, .ia x i none s⟩ :: r) E bx h Q := by
 obtain ⟨cs, h1, h2⟩ := hv
 obtain ⟨g1, g2⟩ := h2.get hz
 refine o_iaV hlt hx hi (h1.mono hg) (by omega) (by omega) fun p hp => ?_
 rw [Int.toNat_natCast] at hp
 exact H p _ hp g1 g2
theorem o_lenG {α : Type} {R : Heap → List AV → α → Prop} {l : List α} {g : Heap} {q d s : Nat} {x : SX} {r : List SO} {v : AV} (hlt : (decide (d < nt)) = true) (hx : ev (lk E) x = some v) (hg : Ext g h) (hv : Sl R s g v l) (H : SOps P A f nt h0 (q - 1) r ((d, .int .i64 l.length) :: E) bx h Q) :
  SOps P A f nt h0 q (⟨some d, none, .len x none⟩ :: r) E bx h Q := by
 obtain ⟨cs, h1, _⟩ := hv
 exact o_lenV hlt hx (h1.mono hg) H
def reckK : SK → Bool
 | .mv _ | .pick _ _ _ | .isnil _ _ _ | .fa _ _ | .ld _ _ | .fld _ _ _ | .ext _ _ | .len _ _ | .lens _ | .ss _ | .chk _ | .mkf _ _ _ => true
 | _ => false
theorem o_valM {q d : Nat} {k : SK} {r : List SO} {p : Prop} {v : AV} (_hk : reckK k = true) (hlt : (decide (d < nt)) = true) (hv : sv (lk E) k = some (p, v)) (hp : p) (H : SOps P A f nt h0 (q - 1) r ((d, v) :: E) bx h Q) :
  SOps P A f nt h0 q (⟨some d, none, k⟩ :: r) E bx h Q := o_val hlt hv hp H
theorem bytesOf_ubs : ∀ (bs : List UInt8), bytesOfA (ubs bs) = some bs
 | [] => rfl
 | b :: bs => by
  show (bytesOfA (ubs bs)).map (UInt8.ofNat (b.toNat : Int).toNat :: ·) = _
  rw [bytesOf_ubs bs, Int.toNat_natCast]
  simp
theorem o_b2sV {q d : Nat} {x : SX} {r : List SO} {v : AV} {bs : List UInt8} {n : Nat} (hlt : (decide (d < nt)) = true) (hx : ev (lk E) x = some v) (hv : VSl h 1 v (ubs bs) n) (hq : 0 < q → Ext h h0)
  (H : SOps P A f nt h0 (q - 1) r ((d, .str bs) :: E) bx h Q) : SOps P A f nt h0 q (⟨some d, none, .b2s x⟩ :: r) E bx h Q := by
 generalize hcs : ubs bs = cs at hv
 cases hv with
 | nil =>
  have : bs = [] := by simpa [ubs] using hcs
  subst this
  exact o_val (p := True) hlt (by simp only [sv, hx]) trivial H
 | tsl _ _ hl =>
  refine o_val (p := True) (v := .str bs) hlt ?_ trivial H
  simp only [sv, hx]
  rw [sliceL_all (by omega), ← hcs]
  simp only [bytesOf_ubs]
 | sl id off _ os _ hid hc =>
  subst hcs
  exact o_b2sh hlt hx hid (fun hlt => by rw [hq hlt _ _ hid]; simp) (by rw [Nat.mul_one] at hc; exact hc) (bytesOf_ubs bs) H
theorem o_cvs {q d : Nat} {x : SX} {r : List SO} {id off len : Nat} {cs l : List AV} (hlt : (decide (d < nt)) = true) (hx : ev (lk E) x = some (.sl id off len 1)) (h0l : 0 < len) (hid : h id = some (.cells cs)) (h0id : 0 < q → h0 id ≠ none) (hl : sliceL cs off len = some l)
  (H : SOps P A f nt h0 (q - 1) r ((d, .sl id off len 1) :: E) bx h Q) : SOps P A f nt h0 q (⟨some d, none, .cvs x⟩ :: r) E bx h Q := by
 refine o_heap (Q1 := fun w h1 => w = .sl id off len 1 ∧ h1 = h) ?_ ?_
 ·intro o rg hd e hs
  obtain ⟨s, dt, x0, e0, e', hop, hx0, hs1, hd1, hb1, hb, hro⟩ := slH_inv (getH e rfl (by simp))
  refine hop_of (by simp [NC, hop]) hro (fun n' hn => ?_)
  refine ⟨_, h, n', ([id], []), ?_, fun hq => ⟨rfl, by simpa using h0id hq⟩, rfl, rfl⟩
  rw [hop]
  simp only [opM, ev_sound hs hx0 hx, lift_some_eq, pure_bind, convertA, hs1, hd1]
  rw [if_pos ⟨hb1, hb, h0l, trivial⟩]
  simp only [AM.bind, cellsAt, AM.get, hid, AM.lift, hl, AM.pure]
  rfl
 ·rintro w h1 o rg hd e ⟨rfl, rfl⟩
  obtain ⟨s, dt, x0, e0, e', hop, _⟩ := slH_inv (getH e rfl (by simp))
  exact ⟨bx, put_nb hd (by simpa [dstOk'] using hlt) (by rw [hop]; rfl), H⟩
end
end Go.Abs
