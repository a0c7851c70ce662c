import Derived.Test.YtmnnmgfjlokmkaaGreatImCut
import Derived.Test.YtmnnmgfjlokmkaaGreatAbsSep
import Derived.Test.YtmnnmgfjlokmkaaGreatAbsTac
import Derived.Test.YtmnnmgfjlokmkaaGreatImSmall
section
open Go Go.Abs Go.Proofs.SlimCode Go.Img
namespace Go.Img
def LCls : List AV → Cls → OL → Prop := fun c x L => ∃ vr vs vt vf Lr Ls Lt Lf, c = [.str x.name, I x.super, I x.init, vr, vs, vt, vf, I x.array, I x.elem, .bool x.thrown] ∧
 SlL (leaf RB) 1 vr x.refs Lr ∧ SlL (leaf (RN .i64)) 1 vs x.subs Ls ∧ SlL (leaf (RN .i64)) 1 vt x.slots Lt ∧ SlL (leaf RPair) 2 vf x.faces Lf ∧ L = Lr ++ (Ls ++ (Lt ++ Lf))
def LMth : List AV → Mth → OL → Prop := fun c m L => ∃ vc vt Lc Lt, c = [I m.args, I m.locals, I m.stack, .bool m.gives, vc, vt] ∧ SlL (leaf RFour) 4 vc m.code Lc ∧ SlL (leaf RFour) 4 vt m.traps Lt ∧ L = Lc ++ Lt
structure Own (vc vm vg vw vr vs vf : AV) (m : Image) (Lc Lm Lg Lr Lw Ls Lf : OL) : Prop where
 pc : SlL LCls 10 vc m.classes Lc
 pm : SlL LMth 6 vm m.methods Lm
 pg : SlL (leaf (RN .i64)) 1 vg m.given Lg
 pr : SlL (leaf (RN .i64)) 1 vr m.rel Lr
 pw : SlL (leaf (RN .i32)) 1 vw m.words Lw
 ps : SlL (leaf (RN .i32)) 1 vs m.stat Ls
 pf : SlL (leaf RB) 1 vf m.statref Lf
theorem LCls.sees : Sees LCls RCls := by
 rintro h c x _ H ⟨vr, vs, vt, vf, Lr, Ls, Lt, Lf, rfl, h1, h2, h3, h4, rfl⟩
 exact ⟨vr, vs, vt, vf, rfl, h1.view leaf_sees H.fst, h2.view leaf_sees H.snd.fst, h3.view leaf_sees H.snd.snd.fst, h4.view leaf_sees H.snd.snd.snd⟩
theorem LMth.sees : Sees LMth RMth := by
 rintro h c x _ H ⟨vc, vt, Lc, Lt, rfl, h1, h2, rfl⟩
 exact ⟨vc, vt, rfl, h1.view leaf_sees H.fst, h2.view leaf_sees H.snd⟩
theorem Own.view {vc vm vg vw vr vs vf : AV} {m : Image} {Lc Lm Lg Lr Lw Ls Lf : OL} {h : Heap} (O : Own vc vm vg vw vr vs vf m Lc Lm Lg Lr Lw Ls Lf) (H : Has h (Lc ++ (Lm ++ (Lg ++ (Lr ++ (Lw ++ (Ls ++ Lf))))))) : RImg h [vc, vm, I m.entry, I m.need, vg, vw, vr, vs, vf] m :=
 ⟨_, _, _, _, _, _, _, rfl, O.pc.view LCls.sees H.fst, O.pm.view LMth.sees H.snd.fst, O.pg.view leaf_sees H.snd.snd.fst, O.pw.view leaf_sees H.snd.snd.snd.snd.fst, O.pr.view leaf_sees H.snd.snd.snd.fst, O.ps.view leaf_sees H.snd.snd.snd.snd.snd.fst, O.pf.view leaf_sees H.snd.snd.snd.snd.snd.snd⟩
end Go.Img
namespace Go.Proofs
def _root_.Go.Img.Cls.cut (x : Cls) : Cls := ⟨x.name.take 12, x.super, x.init, x.array, x.elem, x.thrown, x.refs.take 10, x.subs.take 20, x.slots.take 10, x.faces.take 6⟩
def _root_.Go.Img.Mth.cut (x : Mth) : Mth := ⟨x.args, x.locals, x.stack, x.gives, x.code.take 30, x.traps.take 4⟩
def _root_.Go.Img.Image.cut (m : Image) : Image := ⟨(m.classes.take 20).map Cls.cut, (m.methods.take 12).map Mth.cut, m.entry, m.need, m.given.take 12, m.words.take 200, m.rel.take 60, m.stat.take 20, m.statref.take 20⟩
theorem cut_len {α : Type} (l : List α) (n : Nat) : (l.take n).length ≤ n ∧ (l.take n).length ≤ l.length := by
 rw [List.length_take]
 omega
theorem img_sharp {m : Image} : (∀ c ∈ m.cut.classes, c.refs.length ≤ 10 ∧ c.subs.length ≤ 20 ∧ c.slots.length ≤ 10 ∧ c.faces.length ≤ 6) ∧ (∀ c ∈ m.cut.methods, c.code.length ≤ 30) ∧ m.cut.words.length ≤ 200 ∧ m.cut.statref.length ≤ 20 := by
 refine ⟨fun c hc => ?_, fun c hc => ?_, (cut_len _ _).1, (cut_len _ _).1⟩
 ·obtain ⟨x, _, rfl⟩ := List.mem_map.1 hc
  exact ⟨(cut_len _ _).1, (cut_len _ _).1, (cut_len _ _).1, (cut_len _ _).1⟩
 ·obtain ⟨x, _, rfl⟩ := List.mem_map.1 hc
  exact (cut_len _ _).1
theorem cls_wide {x : Cls} (h : x.WF) : x.Wide := ⟨by have := h.name; omega, h.super, h.init, h.array, h.elem, h.refs, h.subs, h.slots, h.faces⟩
theorem img_wide {m : Image} (h : m.WF) : m.Wide := ⟨⟨h.classes.1, fun c hc => cls_wide (h.classes.2 c hc)⟩, h.methods, h.entry, h.need, h.given, h.words, h.rel, h.stat, h.statref⟩
end Go.Proofs
end
section
open Go Go.Abs Go.Proofs.SlimCode Go.Img
namespace Go.Proofs
section
variable {P : Program} {A : Ann} {f nt : Nat} {E : Env} {bx : List Nat} {h : Heap} {Q : AX → Env → List Nat → Heap → Prop} {h0 : Heap} {α : Type} {R : Heap → List AV → α → Prop} {l : List α} {g : Heap}
theorem o_sltG {q d s : Nat} {x : SX} {lo hi : Option SX} {r : List SO} {v : AV} {b : Nat} (hlt : (decide (d < nt)) = true) (hx : ev (lk E) x = some v) (hv : Sl R s g v l) (hlo : evI (lk E) 0 lo = some 0) (hhi : evI (lk E) l.length hi = some (b : Int)) (h3 : b ≤ l.length)
  (H : ∀ w, Sl R s g w (l.take b) → SOps P A f nt h0 (q - 1) r ((d, w) :: E) bx h Q) : SOps P A f nt h0 q (⟨some d, none, .slt x lo hi s⟩ :: r) E bx h Q := by
 obtain ⟨cs, c1, c2⟩ := hv
 have hl := c1.len
 have hlb : (l.take b).length = b := by rw [List.length_take]; omega
 have hb2 : b * s ≤ l.length * s := Nat.mul_le_mul_right s h3
 have hch := c2.take b
 have hlen : (cs.take (b * s)).length = b * s := by rw [List.length_take]; omega
 obtain ⟨z, hz⟩ : ∃ z : Int, z = 0 := ⟨0, rfl⟩
 replace hlo : evI (lk E) 0 lo = some z := by rw [hz]; exact hlo
 generalize hn : l.length = n at c1 hhi h3 hl hb2
 cases c1 with
 | nil =>
  refine o_val (p := z = 0 ∧ (b : Int) = 0) (v := .nil .sl) hlt (by simp only [sv, hx, hlo]; rw [show ((0 : Nat) : Int) = 0 from rfl] at hhi; rw [hhi]) ⟨hz, by omega⟩ (H _ ⟨_, ?_, hch⟩)
  have e : b = 0 := by omega
  subst e
  rw [hlb]
  simpa using VSl.nil
 | tsl _ _ _ =>
  refine o_val (p := 0 ≤ z ∧ z ≤ b ∧ (b : Int) ≤ n) (v := .tsl ((cs.take ((b : Int).toNat * s)).drop (z.toNat * s)) ((b : Int).toNat - z.toNat)) hlt (by simp only [sv, hx, hlo, hhi]) ⟨by omega, by omega, by omega⟩ (H _ ⟨_, ?_, hch⟩)
  rw [hlb, hz, Int.toNat_natCast, show (0 : Int).toNat = 0 from rfl, Nat.zero_mul, List.drop_zero, Nat.sub_zero]
  exact .tsl _ _ hlen
 | sl id off _ os _ hid hc =>
  refine o_val (p := s = s ∧ 0 ≤ z ∧ z ≤ b ∧ (b : Int) ≤ n) (v := .sl id (off + z.toNat * s) ((b : Int).toNat - z.toNat) s) hlt (by simp only [sv, hx, hlo, hhi]) ⟨rfl, by omega, by omega, by omega⟩ (H _ ⟨_, ?_, hch⟩)
  rw [hlb, hz, Int.toNat_natCast, show (0 : Int).toNat = 0 from rfl, Nat.zero_mul, Nat.add_zero, Nat.sub_zero]
  refine .sl id off b os _ hid ?_
  have := sliceL_sub hc (sliceL_of (l := cs) (o := 0) (n := b * s) (by omega))
  rwa [Nat.add_zero, List.drop_zero] at this
end
structure Acc {α : Type} (R : Heap → List AV → α → Prop) (s : Nat) (h G h' : Heap) (bx : List Nat) (v : AV) (out : List α) : Prop where
 hG : Ext h G
 Gh : Ext G h'
 bxs : ∀ b ∈ bx, G b = none ∧ h' b ≠ none
 own : (v = .nil .sl ∧ out = []) ∨ ∃ i cs, v = .sl i 0 out.length s ∧ G i = none ∧ i ∉ bx ∧ h' i = some (.cells cs) ∧ Chunks (R G) s cs out
section
variable {α : Type} {R : Heap → List AV → α → Prop} {s : Nat} {h G h' h2 : Heap} {bx : List Nat} {v v' : AV} {out : List α}
theorem Acc.base0 (H : Acc R s h G h' bx v out) {b : Nat} (hb : b ∈ bx) : h b = none := by
 cases e : h b with
 | none => rfl
 | some o =>
  have := (H.bxs b hb).1
  rw [H.hG b o e] at this
  cases this
theorem Acc.start (hG : Ext h G) (Gh : Ext G h') (hb : ∀ b ∈ bx, G b = none ∧ h' b ≠ none) : Acc R s h G h' bx (.nil .sl) [] := ⟨hG, Gh, hb, .inl ⟨rfl, rfl⟩⟩
theorem Acc.up (H : Acc R s h G h' bx v out) (hx : Ext h' h2) : Acc R s h G h2 bx v out := by
 refine ⟨H.hG, H.Gh.trans hx, fun b hb => ⟨(H.bxs b hb).1, ?_⟩, ?_⟩
 ·have := (H.bxs b hb).2
  cases e : h' b with
  | none => exact absurd e this
  | some o => rw [hx b o e]; simp
 ·rcases H.own with h2 | ⟨i, cs, e, g1, g2, g3, g4⟩
  ·exact .inl h2
  ·exact .inr ⟨i, cs, e, g1, g2, hx _ _ g3, g4⟩
theorem Acc.set (H : Acc R s h G h' bx v out) {b : Nat} {o : AObj} (hb : b ∈ bx) : Acc R s h G (upd h' b (some o)) bx v out := by
 refine ⟨H.hG, fun id o' e => ?_, fun c hc => ⟨(H.bxs c hc).1, ?_⟩, ?_⟩
 ·rw [upd_ne (fun e' => by rw [e', (H.bxs b hb).1] at e; cases e)]
  exact H.Gh id o' e
 ·unfold upd
  split
  ·simp
  ·exact (H.bxs c hc).2
 ·rcases H.own with h2 | ⟨i, cs, e, g1, g2, g3, g4⟩
  ·exact .inl h2
  ·exact .inr ⟨i, cs, e, g1, g2, by rw [upd_ne (fun e' => g2 (by rw [e']; exact hb))]; exact g3, g4⟩
theorem Acc.box (H : Acc R s h G h' bx v out) {b : Nat} {o : AObj} (hb : h' b = none) : Acc R s h G (upd h' b (some o)) (b :: bx) v out := by
 have hGb : G b = none := by
  cases e : G b with
  | none => rfl
  | some o => rw [H.Gh b o e] at hb; cases hb
 refine ⟨H.hG, H.Gh.trans (.upd hb), fun c hc => ?_, ?_⟩
 ·rcases List.mem_cons.1 hc with rfl | hc
  ·exact ⟨hGb, by rw [upd_same]; simp⟩
  ·refine ⟨(H.bxs c hc).1, ?_⟩
   rw [upd_ne (fun e => (H.bxs c hc).2 (by rw [e]; exact hb))]
   exact (H.bxs c hc).2
 ·rcases H.own with h2 | ⟨i, cs, e, g1, g2, g3, g4⟩
  ·exact .inl h2
  ·have hib : i ≠ b := fun e' => by rw [e', hb] at g3; cases g3
   exact .inr ⟨i, cs, e, g1, by simp [hib, g2], by rw [upd_ne hib]; exact g3, g4⟩
theorem Acc.osl (H : Acc R s h G h' bx v out) : ∃ cs, Chunks (R G) s cs out ∧ OSl (minus h' v) s v cs out.length h' := by
 rcases H.own with ⟨rfl, rfl⟩ | ⟨i, cs, rfl, g1, g2, g3, g4⟩
 ·exact ⟨[], .nil, .nil .refl⟩
 ·refine ⟨cs, g4, fun id o e => ?_, .inr ⟨i, rfl, upd_same, g3, g4.len⟩⟩
  by_cases hid : id = i
  ·subst hid
   rw [show minus h' (.sl id 0 out.length s) id = none from upd_same] at e
   cases e
  ·rw [show minus h' (.sl i 0 out.length s) id = h' id from upd_ne hid] at e
   exact e
theorem Acc.stay (H : Acc R s h G h' bx v out) : Ext G (minus h' v) ∧ ∀ b ∈ bx, minus h' v b = h' b := by
 rcases H.own with ⟨rfl, rfl⟩ | ⟨i, cs, rfl, g1, g2, g3, g4⟩
 ·exact ⟨H.Gh, fun _ _ => rfl⟩
 ·refine ⟨fun id o e => ?_, fun b hb => upd_ne (fun e => g2 (by rw [← e]; exact hb))⟩
  exact (upd_ne (fun hid => by rw [hid, g1] at e; cases e)).trans (H.Gh id o e)
theorem Acc.app (H : Acc R s h G h' bx v out) {cs c : List AV} {a : α} (hcs : Chunks (R G) s cs out) (hc : R G c a) (hl : c.length = s) (O : OSl (minus h' v) s v' (cs ++ c) (out.length + 1) h2) : Acc R s h G h2 bx v' (out ++ [a]) := by
 obtain ⟨s1, s2⟩ := H.stay
 have live : ∀ b ∈ bx, h2 b = h' b := fun b hb => by
  have h3 := (H.bxs b hb).2
  have h4 := s2 b hb
  cases e : h' b with
  | none => exact absurd e h3
  | some o => rw [O.ext b o (by rw [h4, e])]
 refine ⟨H.hG, s1.trans O.ext, fun b hb => ⟨(H.bxs b hb).1, by rw [live b hb]; exact (H.bxs b hb).2⟩, ?_⟩
 rcases O.own with ⟨_, _, h0⟩ | ⟨i, e, g1, g2, g3⟩
 ·omega
 ·refine .inr ⟨i, cs ++ c, by rw [e]; simp, ?_, fun hi => ?_, g2, hcs.append (.one hl hc)⟩
  ·cases e2 : G i with
   | none => rfl
   | some o => rw [s1 i o e2] at g1; cases g1
  ·rw [s2 i hi] at g1
   exact (H.bxs i hi).2 g1
theorem Acc.live {b : Nat} {o : AObj} (H : Acc R s h G h' bx v out) (O : Ext (minus h' v) h2) (hb : b ∈ bx) (e : h' b = some o) : h2 b = some o := O b o (by rw [H.stay.2 b hb, e])
theorem Acc.grow {G2 : Heap} (hR : Mono R) (H : Acc R s h G h' bx v out) (hx : Ext G G2) (hh : Ext G2 h') (hb : ∀ id, G id = none → (id ∈ bx ∨ ∃ n, v = .sl id 0 n s) → G2 id = none) : Acc R s h G2 h' bx v out := by
 refine ⟨H.hG.trans hx, hh, fun b hb2 => ⟨hb b (H.bxs b hb2).1 (.inl hb2), (H.bxs b hb2).2⟩, ?_⟩
 rcases H.own with h2 | ⟨i, cs, e, g1, g2, g3, g4⟩
 ·exact .inl h2
 ·exact .inr ⟨i, cs, e, hb i g1 (.inr ⟨_, e⟩), g2, g3, g4.imp fun c a => hR _ _ c a hx⟩
theorem Acc.fold (hR : Mono R) (H : Acc R s h G h' bx v out) : ∃ G2, Ext G G2 ∧ Ext G2 h' ∧ Sl R s G2 v out ∧ ∀ b ∈ bx, G2 b = none := by
 rcases H.own with ⟨rfl, rfl⟩ | ⟨i, cs, rfl, g1, g2, g3, g4⟩
 ·exact ⟨G, .refl, H.Gh, .nil, fun b hb => (H.bxs b hb).1⟩
 ·refine ⟨upd G i (some (.cells cs)), .upd g1, fun id o e => ?_, ⟨cs, .sl i 0 _ cs cs upd_same (sliceL_all g4.len), g4.imp fun c a => hR _ _ c a (.upd g1)⟩, fun b hb => ?_⟩
  ·unfold upd at e
   split at e
   ·rename_i hid
    rw [hid, g3, e]
   ·exact H.Gh id o e
  ·rw [upd_ne (fun e => g2 (by rw [← e]; exact hb))]
   exact (H.bxs b hb).1
end
end Go.Proofs
end
section
open Go Go.Abs Go.Proofs.SlimCode Go.Img
set_option maxRecDepth 100000
namespace Go.Proofs
def Z9 : List AV := [.nil .sl, .nil .sl, .int .i64 0, .int .i64 0, .nil .sl, .nil .sl, .nil .sl, .nil .sl, .nil .sl]
def O9 (xc xm : AV) (e n : Int) (xg xw xr xs xf : AV) : List AV := [xc, xm, I e, I n, xg, xw, xr, xs, xf]
abbrev nl : AV := .nil .sl
abbrev CtL (b2 b3 : Nat) (m : Image) (xc xm xg xw xr xs xf : AV) (J : OL) : OL := (b3, .cells (O9 xc xm m.entry m.need xg xw xr xs xf)) :: (b2, .cells Z9) :: J
theorem hfB : HF RB := fun _ _ _ _ h => h
theorem hfN {k : IntKind} : HF (RN k) := fun _ _ _ _ h => h
theorem hfP : HF RPair := fun _ _ _ _ h => h
theorem hfF : HF RFour := fun _ _ _ _ h => h
theorem oneB : ∀ h c a, RB h c a → c.all AV.one = true := fun _ _ _ h => by rw [h]; rfl
theorem oneN {k : IntKind} : ∀ h c a, RN k h c a → c.all AV.one = true := fun _ _ _ h => by rw [h]; rfl
theorem take_min {α : Type} (l : List α) (n : Nat) : l.take (min l.length n) = l.take n := by
 rw [List.take_eq_take_iff]
 omega
theorem take_snoc {α β : Type} {f : α → β} {l : List α} {k : Nat} (hk : k < l.length) : (l.take (k + 1)).map f = (l.take k).map f ++ [f l[k]] := by
 rw [List.take_add_one, List.getElem?_eq_getElem hk, List.map_append]
 rfl
theorem take_all {α : Type} {l : List α} {k n : Nat} (h : k = l.length ∧ k ≤ n ∨ k = n) : l.take k = l.take n := by
 rw [List.take_eq_take_iff]
 omega
section
variable {h G G' : Heap} {L0 M : OL} {v w : AV} {cs ds : List AV} {k s s' : Nat} {l : List Int}
theorem sep_ints {n : Nat} (hD : Dis h M) (O : OSl (hset h M) s v cs n G) (O2 : OSl G 1 w ds l.length G') (C : Chunks (RN .i64 G) 1 ds l) : ∃ Lw, SlL (leaf (RN .i64)) 1 w l Lw ∧ Dis h (M ++ Lw) ∧ OSl (hset h (M ++ Lw)) s v cs n G' := sep_add hD O O2 (.of_leaf fun _ => C)
end
set_option maxHeartbeats 2000000 in
theorem p15s {h : Heap} {c : List AV} {m : Image} (hc : RImg h c m) (hw : m.Wide) :
  HCallC Tryz.prog ann 15 [.agg c] h fun v h' => ∃ vc vm vg vw vr vs vf Lc Lm Lg Lr Lw Ls Lf G, v = .agg (O9 vc vm m.cut.entry m.cut.need vg vw vr vs vf) ∧ Own vc vm vg vw vr vs vf m.cut Lc Lm Lg Lr Lw Ls Lf ∧
   Dis G (Lc ++ (Lm ++ (Lg ++ (Lr ++ (Lw ++ (Ls ++ Lf)))))) ∧ h' = hset G (Lc ++ (Lm ++ (Lg ++ (Lr ++ (Lw ++ (Ls ++ Lf)))))) ∧ Ext h G := by
 have hone := hc.one
 obtain ⟨vc, vm, vg, vw, vr, vs, vf, rfl, v1, v2, v3, v4, v5, v6, v7⟩ := hc
 refine s_call_R rfl Tryz.func15 (frc (by with_unfolding_all rfl)) rfl ?_
 refine tS ?_
 show SOps _ _ _ _ _ _ _ _ [] (hset h []) _
 apply o_val rfl rfl hone
 apply o_alcL dis_nil rfl
 intro b2 hD
 refine tV ?_
 refine tw ?_
 apply o_alcL hD rfl
 intro b3 hD
 apply o_stL (v := .agg (O9 nl nl m.entry m.need nl nl nl nl nl)) (cs' := O9 nl nl m.entry m.need nl nl nl nl nl) 0 hD rfl rfl rfl rfl rfl rfl rfl (splice_full rfl)
 intro hD
 change Dis h (CtL b2 b3 m nl nl nl nl nl nl nl []) at hD
 show SOps _ _ _ _ _ _ _ _ [b3, b2] (hset h (CtL b2 b3 m nl nl nl nl nl nl nl [])) _
 with_reducible apply o_nil
 with_reducible apply ssq_norm
 refine s_joinB (σ := OL × AV) (fun _ => [(1, .tptr [vc, vm, I m.entry, I m.need, vg, vw, vr, vs, vf] 0), (2, .ptr b2 0), (3, .ptr b3 0)]) (fun s => s.1.map Prod.fst ++ [b3, b2])
  (fun s h' => ∃ G Lc, h' = hset G (CtL b2 b3 m s.2 nl nl nl nl nl nl s.1) ∧ Dis G (CtL b2 b3 m s.2 nl nl nl nl nl nl s.1) ∧ SlL LCls 10 s.2 m.cut.classes Lc ∧ Dis h Lc ∧ Ext (hset h Lc) G) ?_ ?_
 ·refine tV ?_
  refine s_loopB (fun s : Nat × OL × AV => [(1, .tptr [vc, vm, I m.entry, I m.need, vg, vw, vr, vs, vf] 0), (2, .ptr b2 0), (3, .ptr b3 0), (4, I s.1)]) (fun s => s.2.1.map Prod.fst ++ [b3, b2])
   (fun s h' => s.1 ≤ m.classes.length ∧ s.1 ≤ 20 ∧ ∃ G cs M, h' = hset G (CtL b2 b3 m s.2.2 nl nl nl nl nl nl s.2.1) ∧ Dis G (CtL b2 b3 m s.2.2 nl nl nl nl nl nl s.2.1) ∧ Dis h M ∧ OSl (hset h M) 10 s.2.2 cs s.1 G ∧ ChunksL LCls 10 cs ((m.classes.take s.1).map Cls.cut) M)
   (fun s => 20 - s.1) (0, [], nl) tU rfl ⟨Nat.zero_le _, Nat.zero_le _, h, [], [], rfl, hD, trivial, .nil .refl, .nil⟩ ?_
  clear hD
  rintro ⟨k, J, xc⟩ _ ⟨hk, hk2, G, cs, M, rfl, hD, hM, O, C⟩
  simp only at hk hk2 hD O C ⊢
  have hxG : Ext h G := (ext_hsetD hM).trans O.ext
  have fin : (k = m.classes.length ∧ k ≤ 20 ∨ k = 20) → ∃ G' Lc, hset G (CtL b2 b3 m xc nl nl nl nl nl nl J) = hset G' (CtL b2 b3 m xc nl nl nl nl nl nl J) ∧ Dis G' (CtL b2 b3 m xc nl nl nl nl nl nl J) ∧ SlL LCls 10 xc m.cut.classes Lc ∧ Dis h Lc ∧ Ext (hset h Lc) G' := fun hh => by
   rw [take_all hh] at C
   have e : k = ((m.classes.take 20).map Cls.cut).length := by rw [List.length_map, List.length_take]; omega
   rw [e] at O
   obtain ⟨Lc, h1, h2, h3⟩ := sep_done (L0 := []) hM O C
   exact ⟨G, Lc, rfl, hD, h1, h2, h3⟩
  refine tA ?_
  apply o_lenG rfl rfl (hxG.trans (ext_hsetD hD)) v1
  refine oI (k < m.classes.length) (fun H1 => ?_) (fun H1 => ?_)
  rotate_left
  ·refine tA ?_
   exact ⟨(J, xc), tU, rfl, fin (by omega)⟩
  refine tA ?_
  refine oI (k < 20) (fun H2 => ?_) (fun H2 => ?_)
  rotate_left
  ·refine tA ?_
   exact ⟨(J, xc), tU, rfl, fin (by omega)⟩
  clear fin
  have hcw := hw.classes.2 _ (List.getElem_mem H1)
  refine tA ?_
  apply o_iaG rfl rfl rfl (hxG.trans (ext_hsetD hD)) v1 H1
  intro p c hpc hc hcl
  apply o_ldVn rfl rfl hpc hcl (fun h => by omega)
  apply o_alcL hD rfl
  intro b5 hD
  apply o_stL (v := .agg c) (cs' := c) 0 hD rfl rfl rfl rfl rfl hcl (RCls.one hc) (splice_full (show c.length = _ by rw [hcl]; rfl))
  intro hD
  obtain ⟨x, hx⟩ : ∃ x, x = m.classes[k] := ⟨_, rfl⟩
  rw [← hx] at hc hcw
  obtain ⟨ur, us, ut, uf, rfl, u1, u2, u3, u4⟩ := hc
  refine tA ?_
  apply o_ldL 0 hD rfl rfl rfl rfl rfl
  apply o_callL hD rfl rfl rfl rfl (p34 (s := x.name) (by have := hcw.name; omega)).go
  rintro _ G1 ⟨rfl, hx1⟩ hD
  replace O := O.upE hx1
  have hx2 := hxG.trans hx1
  refine tA ?_
  apply o_st1L 0 hD rfl rfl rfl rfl rfl rfl (show 0 + 0 < 10 by decide)
  intro hD
  refine tv ?_
  refine tv ?_
  refine tv ?_
  refine s_regL [.A, .B, .A, .B, .A, .A, .A, .A, .A, .B, .A, .A, .B, .D, .A, .D, .A, .D, .A, .D] hD ?_
  refine tZ ?_
  apply x_ldL 0 hD rfl rfl rfl rfl
  refine tZ ?_
  apply x_ldL 0 hD rfl rfl rfl rfl
  apply x_lenL hD rfl rfl hx2 u1
  apply x_as (w := I ((min x.refs.length 10 : Nat) : Int)) rfl rfl trivial (min_nat 10 x.refs.length)
  refine x_AL (R := fun E' bx' q => ∃ w, E' = (39, w) :: _ ∧ bx' = _ ∧ q = G1 ∧ Sl RB 1 h w (x.refs.take 10)) hD (o_sltG rfl rfl u1 rfl rfl (Nat.min_le_left _ _) fun w hw => o_nil ⟨rfl, w, rfl, rfl, rfl, by rwa [take_min] at hw⟩) ?_
  rintro _ _ _ ⟨w1, rfl, rfl, rfl, hw1⟩ hD
  apply x_cpL hfB oneB hD rfl rfl rfl hx2 hw1 (by rw [List.length_take]; omega)
  intro w1 G2 d1 O1 C1 hD
  obtain ⟨Lr, S1, hM, O⟩ := sep_add hM O O1 C1
  replace hx2 := hx2.trans O1.ext
  refine tZ ?_
  apply x_ldL 0 hD rfl rfl rfl rfl
  apply x_callL hD rfl rfl rfl (p35 (n := 20) hx2 u2 (by decide) hcw.subs.1)
  rintro w2 G3 ⟨d2, O2, C2⟩ hD
  obtain ⟨Ls, S2, hM, O⟩ := sep_ints hM O O2 C2
  replace hx2 := hx2.trans O2.ext
  refine tZ ?_
  apply x_ldL 0 hD rfl rfl rfl rfl
  refine x_D (R := fun E' bx' q => ∃ w ds G', E' = (46, w) :: _ ∧ bx' = _ ∧ q = hset G' ((b5, .cells [.str (x.name.take 12), I x.super, I x.init, ur, us, ut, uf, I x.array, I x.elem, .bool x.thrown]) :: CtL b2 b3 m xc nl nl nl nl nl nl J) ∧ Dis G' ((b5, .cells [.str (x.name.take 12), I x.super, I x.init, ur, us, ut, uf, I x.array, I x.elem, .bool x.thrown]) :: CtL b2 b3 m xc nl nl nl nl nl nl J) ∧ OSl G3 1 w ds (x.slots.take 10).length G' ∧ Chunks (RN .i64 G3) 1 ds (x.slots.take 10)) (o_callL hD rfl rfl rfl rfl (p35 (n := 10) hx2 u3 (by decide) hcw.slots.1) fun w G' ⟨ds, O, C⟩ hD => o_nil ⟨rfl, w, ds, G', rfl, rfl, rfl, hD, O, C⟩) ?_
  rintro _ _ _ ⟨w3, d3, G4, rfl, rfl, rfl, hD, O3, C3⟩
  obtain ⟨Lt, S3, hM, O⟩ := sep_ints hM O O3 C3
  replace hx2 := hx2.trans O3.ext
  refine ⟨fun i hi => ?_, ?_⟩
  ·obtain ⟨⟨j, o⟩, hj, rfl⟩ := List.mem_map.1 hi
   rw [hset_mem hD hj]
   simp
  show SOpsX _ _ _ _ (((b5, AObj.cells [.str (x.name.take 12), I x.super, I x.init, ur, us, ut, uf, I x.array, I x.elem, .bool x.thrown]) :: CtL b2 b3 m xc nl nl nl nl nl nl J).map Prod.fst) _ _ _ _ _ _
  refine tZ ?_
  apply x_st1L 0 hD rfl rfl rfl rfl S1.one (show 0 + 3 < 10 by decide)
  intro hD
  refine tZ ?_
  apply x_st1L 0 hD rfl rfl rfl rfl S2.one (show 0 + 4 < 10 by decide)
  intro hD
  refine tZ ?_
  apply x_st1L 0 hD rfl rfl rfl rfl S3.one (show 0 + 5 < 10 by decide)
  intro hD
  refine tZ ?_
  refine tA ?_
  apply o_ldL 0 hD rfl rfl rfl rfl rfl
  refine tA ?_
  apply o_ldL 0 hD rfl rfl rfl rfl rfl
  apply o_lenG rfl rfl (hx2.trans (ext_hsetD hD)) u4
  apply o_as (w := I ((min x.faces.length 6 : Nat) : Int)) rfl rfl trivial (min_nat 6 x.faces.length)
  apply o_sltG rfl rfl u4 rfl rfl (Nat.min_le_left _ _)
  intro w4 hw4
  rw [take_min] at hw4
  apply o_cpL hfP (fun _ c a hc => RPair.one hc) hD rfl rfl rfl rfl hx2 hw4 (by rw [List.length_take]; omega)
  intro w4 G5 d4 O4 C4 hD
  obtain ⟨Lf, S4, hM, O⟩ := sep_add hM O O4 C4
  replace hx2 := hx2.trans O4.ext
  refine tA ?_
  apply o_st1L 0 hD rfl rfl rfl rfl rfl S4.one (show 0 + 6 < 10 by decide)
  intro hD
  refine tA ?_
  apply o_ldL 1 hD rfl rfl rfl rfl rfl
  apply o_ldnL 0 hD rfl rfl rfl rfl rfl
  have hcl : LCls [.str (x.name.take 12), I x.super, I x.init, w1, w2, w3, w4, I x.array, I x.elem, .bool x.thrown] x.cut (Lr ++ (Ls ++ (Lt ++ Lf))) := ⟨w1, w2, w3, w4, Lr, Ls, Lt, Lf, rfl, S1, S2, S3, S4, rfl⟩
  have hcone : [AV.str (x.name.take 12), I x.super, I x.init, w1, w2, w3, w4, I x.array, I x.elem, .bool x.thrown].all AV.one = true := by
   simp only [List.all_cons, S1.one, S2.one, S3.one, S4.one]
   rfl
  apply o_val (v := .tsl [.str (x.name.take 12), I x.super, I x.init, w1, w2, w3, w4, I x.array, I x.elem, .bool x.thrown] 1) rfl rfl ⟨rfl, hcone⟩
  apply o_appL (n := 1) hD rfl rfl rfl rfl O rfl rfl hcone (by omega)
  intro v' G6 O6 hg hD
  refine tA ?_
  apply o_st1L 1 hD rfl rfl rfl rfl rfl O6.ones (show 0 + 0 < 9 by decide)
  intro hD
  refine tA ?_
  apply o_as (w := I ((k + 1 : Nat) : Int)) rfl rfl trivial (by rw [w64 (by omega) (by omega)]; rfl)
  refine tA ?_
  obtain ⟨p1, p2⟩ := hset_perm (List.perm_middle (l₁ := [_, _])).symm hD
  refine ⟨(k + 1, _ :: J, v'), by simp only; omega, tU, rfl, by simp only; omega, by simp only; omega, G6, _, _, p1, p2, hM, O6.weaken hg, ?_⟩
  rw [take_snoc H1, ← hx]
  simp only [List.append_assoc]
  exact C.snoc rfl hcl
 clear hD
 rintro ⟨J, xc⟩ _ ⟨G, Lc, rfl, hD, Sc, hM, hx⟩
 simp only at hD Sc ⊢
 refine s_joinB (σ := OL × AV) (fun _ => [(1, .tptr [vc, vm, I m.entry, I m.need, vg, vw, vr, vs, vf] 0), (2, .ptr b2 0), (3, .ptr b3 0)]) (fun s => s.1.map Prod.fst ++ [b3, b2])
  (fun s h' => ∃ G Lm, h' = hset G (CtL b2 b3 m xc s.2 nl nl nl nl nl s.1) ∧ Dis G (CtL b2 b3 m xc s.2 nl nl nl nl nl s.1) ∧ SlL LMth 6 s.2 m.cut.methods Lm ∧ Dis h (Lc ++ Lm) ∧ Ext (hset h (Lc ++ Lm)) G) ?_ ?_
 ·refine tV ?_
  refine s_loopB (fun s : Nat × OL × AV => [(1, .tptr [vc, vm, I m.entry, I m.need, vg, vw, vr, vs, vf] 0), (2, .ptr b2 0), (3, .ptr b3 0), (6, I s.1)]) (fun s => s.2.1.map Prod.fst ++ [b3, b2])
   (fun s h' => s.1 ≤ m.methods.length ∧ s.1 ≤ 12 ∧ ∃ G cs M, h' = hset G (CtL b2 b3 m xc s.2.2 nl nl nl nl nl s.2.1) ∧ Dis G (CtL b2 b3 m xc s.2.2 nl nl nl nl nl s.2.1) ∧ Dis h (Lc ++ M) ∧ OSl (hset h (Lc ++ M)) 6 s.2.2 cs s.1 G ∧ ChunksL LMth 6 cs ((m.methods.take s.1).map Mth.cut) M)
   (fun s => 12 - s.1) (0, J, nl) tU rfl ⟨Nat.zero_le _, Nat.zero_le _, G, [], [], rfl, hD, by rw [List.append_nil]; exact hM, by rw [List.append_nil]; exact .nil hx, .nil⟩ ?_
  clear hD hx hM J G
  rintro ⟨k, J, xm⟩ _ ⟨hk, hk2, G, cs, M, rfl, hD, hM, O, C⟩
  simp only at hk hk2 hD O C ⊢
  have hxG : Ext h G := (ext_hsetD hM).trans O.ext
  have fin : (k = m.methods.length ∧ k ≤ 12 ∨ k = 12) → ∃ G' Lm, hset G (CtL b2 b3 m xc xm nl nl nl nl nl J) = hset G' (CtL b2 b3 m xc xm nl nl nl nl nl J) ∧ Dis G' (CtL b2 b3 m xc xm nl nl nl nl nl J) ∧ SlL LMth 6 xm m.cut.methods Lm ∧ Dis h (Lc ++ Lm) ∧ Ext (hset h (Lc ++ Lm)) G' := fun hh => by
   rw [take_all hh] at C
   have e : k = ((m.methods.take 12).map Mth.cut).length := by rw [List.length_map, List.length_take]; omega
   rw [e] at O
   obtain ⟨Lm, h1, h2, h3⟩ := sep_done hM O C
   exact ⟨G, Lm, rfl, hD, h1, h2, h3⟩
  refine tA ?_
  apply o_lenG rfl rfl (hxG.trans (ext_hsetD hD)) v2
  refine oI (k < m.methods.length) (fun H1 => ?_) (fun H1 => ?_)
  rotate_left
  ·refine tA ?_
   exact ⟨(J, xm), tU, rfl, fin (by omega)⟩
  refine tA ?_
  refine oI (k < 12) (fun H2 => ?_) (fun H2 => ?_)
  rotate_left
  ·refine tA ?_
   exact ⟨(J, xm), tU, rfl, fin (by omega)⟩
  clear fin
  have hcw := hw.methods.2 _ (List.getElem_mem H1)
  refine tA ?_
  apply o_iaG rfl rfl rfl (hxG.trans (ext_hsetD hD)) v2 H1
  intro p c hpc hc hcl
  apply o_ldVn rfl rfl hpc hcl (fun h => by omega)
  apply o_alcL hD rfl
  intro b7 hD
  apply o_stL (v := .agg c) (cs' := c) 0 hD rfl rfl rfl rfl rfl hcl (RMth.one hc) (splice_full (show c.length = _ by rw [hcl]; rfl))
  intro hD
  obtain ⟨x, hx⟩ : ∃ x, x = m.methods[k] := ⟨_, rfl⟩
  rw [← hx] at hc hcw
  obtain ⟨uc, ut, rfl, u1, u2⟩ := hc
  refine tA ?_
  apply o_ldL 0 hD rfl rfl rfl rfl rfl
  refine tA ?_
  apply o_ldL 0 hD rfl rfl rfl rfl rfl
  apply o_lenG rfl rfl (hxG.trans (ext_hsetD hD)) u1
  apply o_as (w := I ((min x.code.length 30 : Nat) : Int)) rfl rfl trivial (min_nat 30 x.code.length)
  apply o_sltG rfl rfl u1 rfl rfl (Nat.min_le_left _ _)
  intro w1 hw1
  rw [take_min] at hw1
  apply o_cpL hfF (fun _ c a hc => RFour.one hc) hD rfl rfl rfl rfl hxG hw1 (by rw [List.length_take]; omega)
  intro w1 G1 d1 O1 C1 hD
  obtain ⟨Lx, S1, hM, O⟩ := sep_add hM O O1 C1
  replace hxG := hxG.trans O1.ext
  refine tA ?_
  apply o_st1L 0 hD rfl rfl rfl rfl rfl S1.one (show 0 + 4 < 6 by decide)
  intro hD
  refine tA ?_
  apply o_ldL 0 hD rfl rfl rfl rfl rfl
  refine tA ?_
  apply o_ldL 0 hD rfl rfl rfl rfl rfl
  apply o_lenG rfl rfl (hxG.trans (ext_hsetD hD)) u2
  apply o_as (w := I ((min x.traps.length 4 : Nat) : Int)) rfl rfl trivial (min_nat 4 x.traps.length)
  apply o_sltG rfl rfl u2 rfl rfl (Nat.min_le_left _ _)
  intro w2 hw2
  rw [take_min] at hw2
  apply o_cpL hfF (fun _ c a hc => RFour.one hc) hD rfl rfl rfl rfl hxG hw2 (by rw [List.length_take]; omega)
  intro w2 G2 d2 O2 C2 hD
  obtain ⟨Ly, S2, hM, O⟩ := sep_add hM O O2 C2
  refine tA ?_
  apply o_st1L 0 hD rfl rfl rfl rfl rfl S2.one (show 0 + 5 < 6 by decide)
  intro hD
  refine tA ?_
  apply o_ldL 1 hD rfl rfl rfl rfl rfl
  apply o_ldnL 0 hD rfl rfl rfl rfl rfl
  have hcl : LMth [I x.args, I x.locals, I x.stack, .bool x.gives, w1, w2] x.cut (Lx ++ Ly) := ⟨w1, w2, Lx, Ly, rfl, S1, S2, rfl⟩
  have hcone : [I x.args, I x.locals, I x.stack, .bool x.gives, w1, w2].all AV.one = true := by
   simp only [List.all_cons, S1.one, S2.one]
   rfl
  apply o_val (v := .tsl [I x.args, I x.locals, I x.stack, .bool x.gives, w1, w2] 1) rfl rfl ⟨rfl, hcone⟩
  apply o_appL (n := 1) hD rfl rfl rfl rfl O rfl rfl hcone (by omega)
  intro v' G6 O6 hg hD
  refine tA ?_
  apply o_st1L 1 hD rfl rfl rfl rfl rfl O6.ones (show 0 + 1 < 9 by decide)
  intro hD
  refine tA ?_
  apply o_as (w := I ((k + 1 : Nat) : Int)) rfl rfl trivial (by rw [w64 (by omega) (by omega)]; rfl)
  refine tA ?_
  obtain ⟨p1, p2⟩ := hset_perm (List.perm_middle (l₁ := [_, _])).symm hD
  simp only [List.append_assoc] at hM O6 hg
  refine ⟨(k + 1, _ :: J, v'), by simp only; omega, tU, rfl, by simp only; omega, by simp only; omega, G6, _, M ++ (Lx ++ Ly), p1, p2, hM, O6.weaken hg, ?_⟩
  rw [take_snoc H1, ← hx]
  exact C.snoc rfl hcl
 clear hD hx hM J G
 rintro ⟨J, xm⟩ _ ⟨G, Lm, rfl, hD, Sm, hM, hx⟩
 simp only at hD Sm ⊢
 have hxG := (ext_hsetD hM).trans hx
 refine tv ?_
 refine s_regL [.A, .A, .A, .A, .C, .D, .A, .D, .A, .D] hD ?_
 apply x_v rfl rfl trivial
 apply x_v rfl rfl trivial
 apply x_callL hD rfl rfl rfl (p35 (n := 12) hxG v3 (by decide) hw.given.1)
 rintro w1 G1 ⟨d1, O1, C1⟩ hD
 obtain ⟨Lg, Sg, hM, hx⟩ := sep_leaf (R := RN .i64) hM O1 hx (.of_leaf fun _ => C1)
 replace hxG := hxG.trans O1.ext
 apply x_v rfl rfl trivial
 apply x_vC rfl rfl rfl trivial
 refine x_D (R := fun E' bx' q => ∃ w ds G', E' = (110, w) :: _ ∧ bx' = _ ∧ q = hset G' (CtL b2 b3 m xc xm nl nl nl nl nl J) ∧ Dis G' (CtL b2 b3 m xc xm nl nl nl nl nl J) ∧ OSl G1 1 w ds (m.rel.take 60).length G' ∧ Chunks (RN .i64 G1) 1 ds (m.rel.take 60)) (o_callL hD rfl rfl rfl rfl (p35 (n := 60) hxG v5 (by decide) hw.rel.1) fun w G' ⟨ds, O, C⟩ hD => o_nil ⟨rfl, w, ds, G', rfl, rfl, rfl, hD, O, C⟩) ?_
 rintro _ _ _ ⟨w2, d2, G2, rfl, rfl, rfl, hD, O2, C2⟩
 obtain ⟨Lr, Sr, hM, hx⟩ := sep_leaf (R := RN .i64) hM O2 hx (.of_leaf fun _ => C2)
 replace hxG := hxG.trans O2.ext
 refine ⟨fun i hi => ?_, ?_⟩
 ·obtain ⟨⟨j, o⟩, hj, rfl⟩ := List.mem_map.1 hi
  rw [hset_mem hD hj]
  simp
 show SOpsX _ _ _ _ ((CtL b2 b3 m xc xm nl nl nl nl nl J).map Prod.fst) _ _ _ _ _ _
 refine tZ ?_
 apply x_st1L 0 hD rfl rfl rfl rfl Sg.one (show 0 + 4 < 9 by decide)
 intro hD
 refine tZ ?_
 apply x_st1L 0 hD rfl rfl rfl rfl Sr.one (show 0 + 6 < 9 by decide)
 intro hD
 refine tZ ?_
 refine tA ?_
 apply o_lenG rfl rfl (hxG.trans (ext_hsetD hD)) v4
 apply o_as (w := I ((min m.words.length 200 : Nat) : Int)) rfl rfl trivial (min_nat 200 m.words.length)
 apply o_sltG rfl rfl v4 rfl rfl (Nat.min_le_left _ _)
 intro w3 hw3
 rw [take_min] at hw3
 apply o_cpL hfN oneN hD rfl rfl rfl rfl hxG hw3 (by rw [List.length_take]; omega)
 intro w3 G3 d3 O3 C3 hD
 obtain ⟨Lw, Sw, hM, hx⟩ := sep_leaf hM O3 hx C3
 replace hxG := hxG.trans O3.ext
 refine tA ?_
 apply o_st1L 0 hD rfl rfl rfl rfl rfl Sw.one (show 0 + 5 < 9 by decide)
 intro hD
 refine tA ?_
 apply o_lenG rfl rfl (hxG.trans (ext_hsetD hD)) v6
 apply o_as (w := I ((min m.stat.length 20 : Nat) : Int)) rfl rfl trivial (min_nat 20 m.stat.length)
 apply o_sltG rfl rfl v6 rfl rfl (Nat.min_le_left _ _)
 intro w4 hw4
 rw [take_min] at hw4
 apply o_cpL hfN oneN hD rfl rfl rfl rfl hxG hw4 (by rw [List.length_take]; omega)
 intro w4 G4 d4 O4 C4 hD
 obtain ⟨Ls, Ss, hM, hx⟩ := sep_leaf hM O4 hx C4
 replace hxG := hxG.trans O4.ext
 refine tA ?_
 apply o_st1L 0 hD rfl rfl rfl rfl rfl Ss.one (show 0 + 7 < 9 by decide)
 intro hD
 refine tA ?_
 apply o_lenG rfl rfl (hxG.trans (ext_hsetD hD)) v7
 apply o_as (w := I ((min m.statref.length 20 : Nat) : Int)) rfl rfl trivial (min_nat 20 m.statref.length)
 apply o_sltG rfl rfl v7 rfl rfl (Nat.min_le_left _ _)
 intro w5 hw5
 rw [take_min] at hw5
 apply o_cpL hfB oneB hD rfl rfl rfl rfl hxG hw5 (by rw [List.length_take]; omega)
 intro w5 G5 d5 O5 C5 hD
 obtain ⟨Lf, Sf, hM, hx⟩ := sep_leaf hM O5 hx C5
 replace hxG := hxG.trans O5.ext
 refine tA ?_
 apply o_st1L 0 hD rfl rfl rfl rfl rfl Sf.one (show 0 + 8 < 9 by decide)
 intro hD
 refine tA ?_
 apply o_ldnL 0 hD rfl rfl rfl rfl rfl
 have ho : (O9 xc xm m.entry m.need w1 w3 w2 w4 w5).all AV.one = true := by
  unfold O9
  simp only [List.all_cons, Sc.one, Sm.one, Sg.one, Sr.one, Sw.one, Ss.one, Sf.one]
  rfl
 apply o_stL (v := .agg (O9 xc xm m.entry m.need w1 w3 w2 w4 w5)) (cs' := O9 xc xm m.entry m.need w1 w3 w2 w4 w5) 1 hD rfl rfl rfl rfl rfl rfl ho (splice_full rfl)
 intro hD
 refine tA ?_
 have hO : Own xc xm w1 w3 w2 w4 w5 m.cut Lc Lm Lg Lr Lw Ls Lf := ⟨Sc, Sm, Sg, Sr, Sw, Ss, Sf⟩
 refine hR_ret (vs := [.agg (O9 xc xm m.entry m.need w1 w3 w2 w4 w5)]) (.cells (m := 9) rfl (by kernel_rfl) (hset_get (k := 1) hD rfl) rfl .nil) rfl ?_ (fun ht => .inl ?_)
 ·rw [kill_as hD fun i => (List.perm_append_comm (l₁ := J.map Prod.fst) (l₂ := [b3, b2])).mem_iff]
  simp only [List.append_assoc] at hM hx
  obtain ⟨G', e1, e2, e3⟩ := sep_end hM hx
  exact ⟨_, _, _, _, _, _, _, _, _, _, _, _, _, _, G', rfl, hO, e2, e1, e3⟩
 ·simp only [tupled, O9, AV.tree, AV.trees, Bool.and_eq_true, and_true, true_and] at ht
  obtain ⟨t1, t2, t3, t4, t5, t6, t7⟩ := ht
  obtain rfl := Sc.tree t1
  obtain rfl := Sm.tree t2
  obtain rfl := Sg.tree t3
  obtain rfl := Sw.tree t4
  obtain rfl := Sr.tree t5
  obtain rfl := Ss.tree t6
  obtain rfl := Sf.tree t7
  exact ⟨_, _, _, _, _, _, _, _, _, _, _, _, _, _, h, rfl, hO, trivial, rfl, .refl⟩
end Go.Proofs
end
section
open Go Go.Abs Go.Proofs.SlimCode Go.Img
namespace Go.Proofs
end Go.Proofs
end
section
open Go Go.Abs Go.Proofs.SlimCode Go.Img
set_option maxRecDepth 100000
namespace Go.Proofs
theorem p32 : PureC Tryz.prog ann 32 [] (.bool true) := pure_eval 1000 (by kernel_rfl) (by kernel_rfl) (by kernel_rfl)
theorem p33 : PureC Tryz.prog ann 33 [] (.bool true) := pure_eval 1000 (by kernel_rfl) (by kernel_rfl) (by kernel_rfl)
theorem small_Small : Image.Small small := by
 refine ⟨⟨by decide, fun c h => ?_⟩, ⟨by decide, fun c h => ?_⟩, by decide, by decide, by decide, by decide, by decide⟩
 ·obtain ⟨i, _, rfl⟩ := List.mem_map.1 h
  exact ⟨(by decide : 2 ≤ 12), Nat.zero_le _, (by decide : 1 ≤ 21), Nat.zero_le _, Nat.zero_le _⟩
 ·obtain rfl := List.mem_singleton.1 h
  exact ⟨by decide, by decide⟩
theorem flat_ge {α : Type} {e : α → B} (he : ∀ a, 1 ≤ (e a).length) : ∀ l : List α, l.length ≤ (l.flatMap e).length
 | [] => Nat.le_refl _
 | a :: l => by
  have := flat_ge he l
  have := he a
  simp only [List.flatMap_cons, List.length_append, List.length_cons]
  omega
theorem put_ge (n : Int) : 1 ≤ (put n).length := List.length_pos_iff.mpr (put_ne n)
theorem small_ge : 8 < (Img.body small).length := by
 have h1 : 11 ≤ ((small.classes).flatMap eCls).length := Nat.le_trans (by simp [small]) (flat_ge (fun a => by simp only [eCls, eText, List.length_append]; have := put_ge a.name.length; omega) small.classes)
 simp only [Img.body, eList, List.length_append]
 omega
theorem dec_small : Img.decode (encode small) = some small := decode_encode small_WF (by have := small_len small_WF small_Small; unfold size; omega)
theorem dec_none : Img.decode [] = none := by unfold Img.decode; rw [if_pos (.inl (by decide))]
def small1 : Image := { small with entry := 1 }
theorem small1_WF : small1.WF := { small_WF with entry := i64_of (by decide) (by decide) }
theorem mono_I {h h' : Heap} {c : List AV} {m : Image} (H : RImg h c m) (hx : Ext h h') : RImg h' c m := RImg.mono _ _ _ _ hx H
theorem p14 : PureC Tryz.prog ann 14 [] (.bool true) := by
 refine s_pure_of Tryz.func14 (frc (by with_unfolding_all rfl)) rfl rfl rfl ?_
 refine tV ?_
 apply o_hcall rfl rfl rfl rfl (p27 (h := hp0))
 rintro _ k1 ⟨_, c, rfl, hM⟩
 obtain ⟨vc, vm, vg, vw, vr, vs, vf, rfl, r⟩ := id hM
 refine tW ?_
 apply o_alc rfl
 intro b1 hn
 apply o_st (v := .agg [vc, vm, I small.entry, I small.need, vg, vw, vr, vs, vf]) (cs' := [vc, vm, I small.entry, I small.need, vg, vw, vr, vs, vf]) rfl rfl rfl rfl rfl hM.one upd_same rfl
 rw [upd_upd]
 have hx : Ext k1 (upd k1 b1 (some (.cells [vc, vm, I small.entry, I small.need, vg, vw, vr, vs, vf]))) := .upd hn
 have e_b1 : upd k1 b1 (some (.cells [vc, vm, I small.entry, I small.need, vg, vw, vr, vs, vf])) b1 = some (.cells [vc, vm, I small.entry, I small.need, vg, vw, vr, vs, vf]) := upd_same
 generalize upd k1 b1 (some (.cells [vc, vm, I small.entry, I small.need, vg, vw, vr, vs, vf])) = k2 at hx e_b1 ⊢
 replace hM := mono_I hM hx
 clear hx hn
 refine tV ?_
 apply o_ldhn (l := [vc, vm, I small.entry, I small.need, vg, vw, vr, vs, vf]) rfl rfl e_b1 (fun h => by omega) rfl
 apply o_hcall rfl rfl rfl rfl (p16 hM small_WF (by have := small_len small_WF small_Small; omega))
 rintro v2 k3 hb
 have hlb := small_len small_WF small_Small
 rcases hb with ⟨_, O⟩ | ⟨hb, _⟩
 rotate_left
 ·unfold size at hb; omega
 have hx3 := O.ext
 have hv := O.view
 have hpos := small_ge
 have hsz : (encode small).length = 12 + (Img.body small).length := encode_len small
 replace e_b1 := hx3 _ _ e_b1
 replace hM := mono_I hM hx3
 refine tV ?_
 apply o_hcall rfl rfl rfl rfl (p17 hv (by omega))
 rintro _ k4 ⟨hx4, c3, e3, m3, rfl, hX, hXW, hdec⟩
 obtain ⟨rfl, rfl⟩ : e3 = 0 ∧ m3 = small := by
  rcases hdec with ⟨h1, h2⟩ | ⟨_, h2, _⟩
  ·rw [dec_small] at h2
   exact ⟨h1, (Option.some.inj h2).symm⟩
  ·rw [dec_small] at h2
   cases h2
 clear hdec
 obtain ⟨uc, um, ug, uw, ur, us, uf, rfl, _⟩ := id hX
 replace e_b1 := hx4 _ _ e_b1
 replace hM := mono_I hM hx4
 replace hv := hv.mono hx4
 refine tW ?_
 apply o_alc rfl
 intro b3 hn
 apply o_st (v := .agg [uc, um, I small.entry, I small.need, ug, uw, ur, us, uf]) (cs' := [uc, um, I small.entry, I small.need, ug, uw, ur, us, uf]) rfl rfl rfl rfl rfl hX.one upd_same rfl
 rw [upd_upd]
 have hx : Ext k4 (upd k4 b3 (some (.cells [uc, um, I small.entry, I small.need, ug, uw, ur, us, uf]))) := .upd hn
 have e_b3 : upd k4 b3 (some (.cells [uc, um, I small.entry, I small.need, ug, uw, ur, us, uf])) b3 = some (.cells [uc, um, I small.entry, I small.need, ug, uw, ur, us, uf]) := upd_same
 generalize upd k4 b3 (some (.cells [uc, um, I small.entry, I small.need, ug, uw, ur, us, uf])) = k5 at hx e_b3 ⊢
 replace e_b1 := hx _ _ e_b1
 replace hM := mono_I hM hx
 replace hX := mono_I hX hx
 replace hv := hv.mono hx
 clear hx hn
 refine tV ?_
 apply o_hcall rfl rfl rfl rfl (p17 (bs := []) .nil (by decide))
 rintro _ k6 ⟨hx6, c5, e5, m5, rfl, hY, _, hdec⟩
 obtain rfl : e5 = 6 := by
  rcases hdec with ⟨_, h2⟩ | ⟨h1, _, _⟩
  ·rw [dec_none] at h2
   cases h2
  ·exact h1
 clear hdec
 obtain ⟨y0, y1, y2, y3, y4, y5, y6, rfl, _⟩ := id hY
 replace e_b1 := hx6 _ _ e_b1
 replace e_b3 := hx6 _ _ e_b3
 replace hM := mono_I hM hx6
 replace hX := mono_I hX hx6
 replace hv := hv.mono hx6
 refine tW ?_
 apply o_alc rfl
 intro b5 hn
 apply o_st (v := .agg [y0, y1, I m5.entry, I m5.need, y2, y3, y4, y5, y6]) (cs' := [y0, y1, I m5.entry, I m5.need, y2, y3, y4, y5, y6]) rfl rfl rfl rfl rfl hY.one upd_same rfl
 rw [upd_upd]
 have hx : Ext k6 (upd k6 b5 (some (.cells [y0, y1, I m5.entry, I m5.need, y2, y3, y4, y5, y6]))) := .upd hn
 have e_b5 : upd k6 b5 (some (.cells [y0, y1, I m5.entry, I m5.need, y2, y3, y4, y5, y6])) b5 = some (.cells [y0, y1, I m5.entry, I m5.need, y2, y3, y4, y5, y6]) := upd_same
 generalize upd k6 b5 (some (.cells [y0, y1, I m5.entry, I m5.need, y2, y3, y4, y5, y6])) = k7 at hx e_b5 ⊢
 replace e_b1 := hx _ _ e_b1
 replace e_b3 := hx _ _ e_b3
 replace hM := mono_I hM hx
 replace hX := mono_I hX hx
 replace hv := hv.mono hx
 clear hx hn
 clear hY e_b5
 refine tV ?_
 apply o_hcall rfl rfl rfl rfl (p27 (h := k7))
 rintro _ k8 ⟨hx8, c7, rfl, hN⟩
 obtain ⟨vc', vm', vg', vw', vr', vs', vf', rfl, n1, n2, n3, n4, n5, n6, n7⟩ := id hN
 replace e_b1 := hx8 _ _ e_b1
 replace e_b3 := hx8 _ _ e_b3
 replace hM := mono_I hM hx8
 replace hX := mono_I hX hx8
 replace hv := hv.mono hx8
 refine tW ?_
 apply o_alc rfl
 intro b7 hn
 have hne1 : b1 ≠ b7 := fun hc => by rw [← hc, e_b1] at hn; cases hn
 have hne3 : b3 ≠ b7 := fun hc => by rw [← hc, e_b3] at hn; cases hn
 have hnv := hn
 apply o_st (v := .agg [vc', vm', I small.entry, I small.need, vg', vw', vr', vs', vf']) (cs' := [vc', vm', I small.entry, I small.need, vg', vw', vr', vs', vf']) rfl rfl rfl rfl rfl hN.one upd_same rfl
 rw [upd_upd]
 have hx : Ext k8 (upd k8 b7 (some (.cells [vc', vm', I small.entry, I small.need, vg', vw', vr', vs', vf']))) := .upd hn
 have e_b7 : upd k8 b7 (some (.cells [vc', vm', I small.entry, I small.need, vg', vw', vr', vs', vf'])) b7 = some (.cells [vc', vm', I small.entry, I small.need, vg', vw', vr', vs', vf']) := upd_same
 clear hx e_b7
 refine tV ?_
 apply o_st (v := I 1) (cs' := [vc', vm', I 1, I small.need, vg', vw', vr', vs', vf']) rfl rfl rfl rfl rfl rfl upd_same rfl
 rw [upd_upd]
 have hx : Ext k8 (upd k8 b7 (some (.cells [vc', vm', I 1, I small.need, vg', vw', vr', vs', vf']))) := .upd hn
 have e_b7 : upd k8 b7 (some (.cells [vc', vm', I 1, I small.need, vg', vw', vr', vs', vf'])) b7 = some (.cells [vc', vm', I 1, I small.need, vg', vw', vr', vs', vf']) := upd_same
 generalize upd k8 b7 (some (.cells [vc', vm', I 1, I small.need, vg', vw', vr', vs', vf'])) = k9 at hx e_b7 ⊢
 replace e_b1 := hx _ _ e_b1
 replace e_b3 := hx _ _ e_b3
 replace hM := mono_I hM hx
 replace hX := mono_I hX hx
 replace hv := hv.mono hx
 replace hN := mono_I hN hx
 clear hx hn
 have hN1 : RImg k9 [vc', vm', I 1, I small.need, vg', vw', vr', vs', vf'] small1 := by
  obtain ⟨_, _, _, _, _, _, _, he, q1, q2, q3, q4, q5, q6, q7⟩ := hN
  simp only [List.cons.injEq, and_true] at he
  obtain ⟨rfl, rfl, _, _, rfl, rfl, rfl, rfl, rfl⟩ := he
  exact ⟨_, _, _, _, _, _, _, rfl, q1, q2, q3, q4, q5, q6, q7⟩
 clear hN
 refine tV ?_
 (refine tG ?_; (with_reducible apply o_call); exact rfl; exact rfl; exact rfl; exact p32)
 refine tV ?_
 (refine tG ?_; (with_reducible apply o_call); exact rfl; exact rfl; exact rfl; exact p33)
 refine tV ?_
 apply o_lenV rfl rfl hv
 refine tV ?_
 refine tV ?_
 refine oB fun b hb => ?_
 obtain rfl : b = true := by rw [hb]; exact decide_eq_true (by omega)
 refine tV ?_
 apply o_iaV rfl rfl rfl hv (by decide) (by omega)
 intro p hp
 replace hp := byte_ptr (i := 0) rfl (by omega) hp
 refine tV ?_
 apply o_ldV rfl rfl hp (fun h => by omega)
 refine tV ?_
 refine oB fun b hb => ?_
 obtain rfl : b = true := by rw [hb]; rfl
 refine tV ?_
 refine tV ?_
 refine oB fun b hb => ?_
 obtain rfl : b = true := by rw [hb]; rfl
 refine tV ?_
 apply o_ldhn (l := [uc, um, I small.entry, I small.need, ug, uw, ur, us, uf]) rfl rfl e_b3 (fun h => by omega) rfl
 refine tV ?_
 apply o_ldhn (l := [vc, vm, I small.entry, I small.need, vg, vw, vr, vs, vf]) rfl rfl e_b1 (fun h => by omega) rfl
 refine tV ?_
 apply o_hcall rfl rfl rfl rfl (p18 hX hM small_WF small_WF).go
 rintro _ kk ⟨rfl, hx⟩
 rw [decide_eq_true rfl]
 replace e_b1 := hx _ _ e_b1
 replace e_b3 := hx _ _ e_b3
 replace e_b7 := hx _ _ e_b7
 replace hM := mono_I hM hx
 replace hX := mono_I hX hx
 replace hN1 := mono_I hN1 hx
 clear hx
 refine tV ?_
 refine tV ?_
 refine oB fun b hb => ?_
 obtain rfl : b = true := by rw [hb]; rfl
 refine tV ?_
 apply o_ldhn (l := [vc, vm, I small.entry, I small.need, vg, vw, vr, vs, vf]) rfl rfl e_b1 (fun h => by omega) rfl
 refine tV ?_
 apply o_ldhn (l := [vc, vm, I small.entry, I small.need, vg, vw, vr, vs, vf]) rfl rfl e_b1 (fun h => by omega) rfl
 refine tV ?_
 apply o_hcall rfl rfl rfl rfl (p19 hM hM small_WF small_WF).go
 rintro _ kk ⟨rfl, hx⟩
 rw [decide_eq_true rfl]
 replace e_b1 := hx _ _ e_b1
 replace e_b3 := hx _ _ e_b3
 replace e_b7 := hx _ _ e_b7
 replace hM := mono_I hM hx
 replace hX := mono_I hX hx
 replace hN1 := mono_I hN1 hx
 clear hx
 refine tV ?_
 apply o_ldhn (l := [vc, vm, I small.entry, I small.need, vg, vw, vr, vs, vf]) rfl rfl e_b1 (fun h => by omega) rfl
 refine tV ?_
 apply o_ldhn (l := [vc', vm', I 1, I small.need, vg', vw', vr', vs', vf']) rfl rfl e_b7 (fun h => by omega) rfl
 refine tV ?_
 apply o_hcall rfl rfl rfl rfl (p19 hM hN1 small_WF small1_WF).go
 rintro _ kk ⟨rfl, hx⟩
 rw [decide_eq_false (fun e => absurd (congrArg Image.entry e) (by decide))]
 refine tw ?_
 apply o_val rfl rfl trivial
 refine tW ?_
 apply sret_ret
 exact res_tmp (vs := [_]) rfl rfl
end Go.Proofs
end
