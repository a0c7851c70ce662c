import Derived.Test.YtmnnmgfjlokmkaaGreatImCut
open Go Go.Abs Go.Proofs.SlimCode Go.Img
namespace Go.Proofs
structure Acc {α : Type} (R : Heap → List AV → α → Prop) (s : Nat) (h G h' : Heap) (bx : List Nat) (v : AV) (out : List α) : Prop where
 hG : Ext h G
 Gh : Ext G h'
 bxs : ∀ b ∈ bx, G b = none ∧ h' b ≠ none
 own : (v = .nil .sl ∧ out = []) ∨ ∃ i cs, v = .sl i 0 out.length s ∧ G i = none ∧ i ∉ bx ∧ h' i = some (.cells cs) ∧ Chunks (R G) s cs out
section
variable {α : Type} {R : Heap → List AV → α → Prop} {s : Nat} {h G h' h2 : Heap} {bx : List Nat} {v v' : AV} {out : List α}
theorem Acc.base0 (H : Acc R s h G h' bx v out) {b : Nat} (hb : b ∈ bx) : h b = none := by
 cases e : h b with
 | none => rfl
 | some o =>
  have := (H.bxs b hb).1
  rw [H.hG b o e] at this
  cases this
theorem Acc.start (hG : Ext h G) (Gh : Ext G h') (hb : ∀ b ∈ bx, G b = none ∧ h' b ≠ none) : Acc R s h G h' bx (.nil .sl) [] := ⟨hG, Gh, hb, .inl ⟨rfl, rfl⟩⟩
theorem Acc.up (H : Acc R s h G h' bx v out) (hx : Ext h' h2) : Acc R s h G h2 bx v out := by
 refine ⟨H.hG, H.Gh.trans hx, fun b hb => ⟨(H.bxs b hb).1, ?_⟩, ?_⟩
 ·have := (H.bxs b hb).2
  cases e : h' b with
  | none => exact absurd e this
  | some o => rw [hx b o e]; simp
 ·rcases H.own with h2 | ⟨i, cs, e, g1, g2, g3, g4⟩
  ·exact .inl h2
  ·exact .inr ⟨i, cs, e, g1, g2, hx _ _ g3, g4⟩
theorem Acc.set (H : Acc R s h G h' bx v out) {b : Nat} {o : AObj} (hb : b ∈ bx) : Acc R s h G (upd h' b (some o)) bx v out := by
 refine ⟨H.hG, fun id o' e => ?_, fun c hc => ⟨(H.bxs c hc).1, ?_⟩, ?_⟩
 ·rw [upd_ne (fun e' => by rw [e', (H.bxs b hb).1] at e; cases e)]
  exact H.Gh id o' e
 ·unfold upd
  split
  ·simp
  ·exact (H.bxs c hc).2
 ·rcases H.own with h2 | ⟨i, cs, e, g1, g2, g3, g4⟩
  ·exact .inl h2
  ·exact .inr ⟨i, cs, e, g1, g2, by rw [upd_ne (fun e' => g2 (by rw [e']; exact hb))]; exact g3, g4⟩
theorem Acc.box (H : Acc R s h G h' bx v out) {b : Nat} {o : AObj} (hb : h' b = none) : Acc R s h G (upd h' b (some o)) (b :: bx) v out := by
 have hGb : G b = none := by
  cases e : G b with
  | none => rfl
  | some o => rw [H.Gh b o e] at hb; cases hb
 refine ⟨H.hG, H.Gh.trans (.upd hb), fun c hc => ?_, ?_⟩
 ·rcases List.mem_cons.1 hc with rfl | hc
  ·exact ⟨hGb, by rw [upd_same]; simp⟩
  ·refine ⟨(H.bxs c hc).1, ?_⟩
   rw [upd_ne (fun e => (H.bxs c hc).2 (by rw [e]; exact hb))]
   exact (H.bxs c hc).2
 ·rcases H.own with h2 | ⟨i, cs, e, g1, g2, g3, g4⟩
  ·exact .inl h2
  ·have hib : i ≠ b := fun e' => by rw [e', hb] at g3; cases g3
   exact .inr ⟨i, cs, e, g1, by simp [hib, g2], by rw [upd_ne hib]; exact g3, g4⟩
theorem Acc.osl (H : Acc R s h G h' bx v out) : ∃ cs, Chunks (R G) s cs out ∧ OSl (minus h' v) s v cs out.length h' := by
 rcases H.own with ⟨rfl, rfl⟩ | ⟨i, cs, rfl, g1, g2, g3, g4⟩
 ·exact ⟨[], .nil, .nil .refl⟩
 ·refine ⟨cs, g4, fun id o e => ?_, .inr ⟨i, rfl, upd_same, g3, g4.len⟩⟩
  by_cases hid : id = i
  ·subst hid
   rw [show minus h' (.sl id 0 out.length s) id = none from upd_same] at e
   cases e
  ·rw [show minus h' (.sl i 0 out.length s) id = h' id from upd_ne hid] at e
   exact e
theorem Acc.stay (H : Acc R s h G h' bx v out) : Ext G (minus h' v) ∧ ∀ b ∈ bx, minus h' v b = h' b := by
 rcases H.own with ⟨rfl, rfl⟩ | ⟨i, cs, rfl, g1, g2, g3, g4⟩
 ·exact ⟨H.Gh, fun _ _ => rfl⟩
 ·refine ⟨fun id o e => ?_, fun b hb => upd_ne (fun e => g2 (by rw [← e]; exact hb))⟩
  exact (upd_ne (fun hid => by rw [hid, g1] at e; cases e)).trans (H.Gh id o e)
theorem Acc.app (H : Acc R s h G h' bx v out) {cs c : List AV} {a : α} (hcs : Chunks (R G) s cs out) (hc : R G c a) (hl : c.length = s) (O : OSl (minus h' v) s v' (cs ++ c) (out.length + 1) h2) : Acc R s h G h2 bx v' (out ++ [a]) := by
 obtain ⟨s1, s2⟩ := H.stay
 have live : ∀ b ∈ bx, h2 b = h' b := fun b hb => by
  have h3 := (H.bxs b hb).2
  have h4 := s2 b hb
  cases e : h' b with
  | none => exact absurd e h3
  | some o => rw [O.ext b o (by rw [h4, e])]
 refine ⟨H.hG, s1.trans O.ext, fun b hb => ⟨(H.bxs b hb).1, by rw [live b hb]; exact (H.bxs b hb).2⟩, ?_⟩
 rcases O.own with ⟨_, _, h0⟩ | ⟨i, e, g1, g2, g3⟩
 ·omega
 ·refine .inr ⟨i, cs ++ c, by rw [e]; simp, ?_, fun hi => ?_, g2, hcs.append (.one hl hc)⟩
  ·cases e2 : G i with
   | none => rfl
   | some o => rw [s1 i o e2] at g1; cases g1
  ·rw [s2 i hi] at g1
   exact (H.bxs i hi).2 g1
theorem Acc.live {b : Nat} {o : AObj} (H : Acc R s h G h' bx v out) (O : Ext (minus h' v) h2) (hb : b ∈ bx) (e : h' b = some o) : h2 b = some o := O b o (by rw [H.stay.2 b hb, e])
theorem Acc.grow {G2 : Heap} (hR : Mono R) (H : Acc R s h G h' bx v out) (hx : Ext G G2) (hh : Ext G2 h') (hb : ∀ id, G id = none → (id ∈ bx ∨ ∃ n, v = .sl id 0 n s) → G2 id = none) : Acc R s h G2 h' bx v out := by
 refine ⟨H.hG.trans hx, hh, fun b hb2 => ⟨hb b (H.bxs b hb2).1 (.inl hb2), (H.bxs b hb2).2⟩, ?_⟩
 rcases H.own with h2 | ⟨i, cs, e, g1, g2, g3, g4⟩
 ·exact .inl h2
 ·exact .inr ⟨i, cs, e, hb i g1 (.inr ⟨_, e⟩), g2, g3, g4.imp fun c a => hR _ _ c a hx⟩
theorem Acc.fold (hR : Mono R) (H : Acc R s h G h' bx v out) : ∃ G2, Ext G G2 ∧ Ext G2 h' ∧ Sl R s G2 v out ∧ ∀ b ∈ bx, G2 b = none := by
 rcases H.own with ⟨rfl, rfl⟩ | ⟨i, cs, rfl, g1, g2, g3, g4⟩
 ·exact ⟨G, .refl, H.Gh, .nil, fun b hb => (H.bxs b hb).1⟩
 ·refine ⟨upd G i (some (.cells cs)), .upd g1, fun id o e => ?_, ⟨cs, .sl i 0 _ cs cs upd_same (sliceL_all g4.len), g4.imp fun c a => hR _ _ c a (.upd g1)⟩, fun b hb => ?_⟩
  ·unfold upd at e
   split at e
   ·rename_i hid
    rw [hid, g3, e]
   ·exact H.Gh id o e
  ·rw [upd_ne (fun e => g2 (by rw [← e]; exact hb))]
   exact (H.bxs b hb).1
end
end Go.Proofs
