import Derived.Test.YtmnnmgfjlokmkaaGreatImCut
open Go Go.Abs Go.Proofs.SlimCode Go.Img
namespace Go.Proofs
section
variable {P : Program} {A : Ann} {f nt : Nat} {E : Env} {bx : List Nat} {h : Heap} {Q : AX → Env → List Nat → Heap → Prop} {h0 : Heap} {α : Type} {R : Heap → List AV → α → Prop} {l : List α} {g : Heap}
theorem o_sltG {q d s : Nat} {x : SX} {lo hi : Option SX} {r : List SO} {v : AV} {b : Nat} (hlt : (decide (d < nt)) = true) (hx : ev (lk E) x = some v) (hv : Sl R s g v l) (hlo : evI (lk E) 0 lo = some 0) (hhi : evI (lk E) l.length hi = some (b : Int)) (h3 : b ≤ l.length)
  (H : ∀ w, Sl R s g w (l.take b) → SOps P A f nt h0 (q - 1) r ((d, w) :: E) bx h Q) : SOps P A f nt h0 q (⟨some d, none, .slt x lo hi s⟩ :: r) E bx h Q := by
 obtain ⟨cs, c1, c2⟩ := hv
 have hl := c1.len
 have hlb : (l.take b).length = b := by rw [List.length_take]; omega
 have hb2 : b * s ≤ l.length * s := Nat.mul_le_mul_right s h3
 have hch := c2.take b
 have hlen : (cs.take (b * s)).length = b * s := by rw [List.length_take]; omega
 obtain ⟨z, hz⟩ : ∃ z : Int, z = 0 := ⟨0, rfl⟩
 replace hlo : evI (lk E) 0 lo = some z := by rw [hz]; exact hlo
 generalize hn : l.length = n at c1 hhi h3 hl hb2
 cases c1 with
 | nil =>
  refine o_val (p := z = 0 ∧ (b : Int) = 0) (v := .nil .sl) hlt (by simp only [sv, hx, hlo]; rw [show ((0 : Nat) : Int) = 0 from rfl] at hhi; rw [hhi]) ⟨hz, by omega⟩ (H _ ⟨_, ?_, hch⟩)
  have e : b = 0 := by omega
  subst e
  rw [hlb]
  simpa using VSl.nil
 | tsl _ _ _ =>
  refine o_val (p := 0 ≤ z ∧ z ≤ b ∧ (b : Int) ≤ n) (v := .tsl ((cs.take ((b : Int).toNat * s)).drop (z.toNat * s)) ((b : Int).toNat - z.toNat)) hlt (by simp only [sv, hx, hlo, hhi]) ⟨by omega, by omega, by omega⟩ (H _ ⟨_, ?_, hch⟩)
  rw [hlb, hz, Int.toNat_natCast, show (0 : Int).toNat = 0 from rfl, Nat.zero_mul, List.drop_zero, Nat.sub_zero]
  exact .tsl _ _ hlen
 | sl id off _ os _ hid hc =>
  refine o_val (p := s = s ∧ 0 ≤ z ∧ z ≤ b ∧ (b : Int) ≤ n) (v := .sl id (off + z.toNat * s) ((b : Int).toNat - z.toNat) s) hlt (by simp only [sv, hx, hlo, hhi]) ⟨rfl, by omega, by omega, by omega⟩ (H _ ⟨_, ?_, hch⟩)
  rw [hlb, hz, Int.toNat_natCast, show (0 : Int).toNat = 0 from rfl, Nat.zero_mul, Nat.add_zero, Nat.sub_zero]
  refine .sl id off b os _ hid ?_
  have := sliceL_sub hc (sliceL_of (l := cs) (o := 0) (n := b * s) (by omega))
  rwa [Nat.add_zero, List.drop_zero] at this
theorem o_appTS {q d s b : Nat} {x y : SX} {r : List SO} {w : AV} (hlt : (decide (d < nt)) = true) (hx : ev (lk E) x = some (.nil .sl)) (hy : ev (lk E) y = some w) (hg : Ext g h) (hw : Sl R s g w l) (hone : ∀ c a, R g c a → c.all AV.one = true) (hbd : l.length * (b + 1) ≤ 2 ^ 44) (hq : 0 < q → Ext h h0)
  (H : ∀ w', Sl R s g w' l → SOps P A f nt h0 (q - 1) r ((d, w') :: E) bx h Q) : SOps P A f nt h0 q (⟨some d, none, .appT s b x y⟩ :: r) E bx h Q := by
 obtain ⟨cs, c1, c2, c3⟩ := sl_cells hw hone
 refine o_appTn hlt hx hy (srcOf_V (c1.mono hg)) c1.len c3 hbd (fun hlt id o n z e => ?_) (H _ ⟨cs, .of_T (tslOf_T c1.len), c2⟩)
 subst e
 cases c1 with
 | sl _ _ _ os _ hid _ =>
  rw [hq hlt _ _ (hg _ _ hid)]
  simp
end
structure Acc {α : Type} (R : Heap → List AV → α → Prop) (s : Nat) (h G h' : Heap) (bx : List Nat) (v : AV) (out : List α) : Prop where
 hG : Ext h G
 Gh : Ext G h'
 bxs : ∀ b ∈ bx, G b = none ∧ h' b ≠ none
 own : (v = .nil .sl ∧ out = []) ∨ ∃ i cs, v = .sl i 0 out.length s ∧ G i = none ∧ i ∉ bx ∧ h' i = some (.cells cs) ∧ Chunks (R G) s cs out
section
variable {α : Type} {R : Heap → List AV → α → Prop} {s : Nat} {h G h' h2 : Heap} {bx : List Nat} {v v' : AV} {out : List α}
theorem Acc.base0 (H : Acc R s h G h' bx v out) {b : Nat} (hb : b ∈ bx) : h b = none := by
 cases e : h b with
 | none => rfl
 | some o =>
  have := (H.bxs b hb).1
  rw [H.hG b o e] at this
  cases this
theorem Acc.start (hG : Ext h G) (Gh : Ext G h') (hb : ∀ b ∈ bx, G b = none ∧ h' b ≠ none) : Acc R s h G h' bx (.nil .sl) [] := ⟨hG, Gh, hb, .inl ⟨rfl, rfl⟩⟩
theorem Acc.up (H : Acc R s h G h' bx v out) (hx : Ext h' h2) : Acc R s h G h2 bx v out := by
 refine ⟨H.hG, H.Gh.trans hx, fun b hb => ⟨(H.bxs b hb).1, ?_⟩, ?_⟩
 ·have := (H.bxs b hb).2
  cases e : h' b with
  | none => exact absurd e this
  | some o => rw [hx b o e]; simp
 ·rcases H.own with h2 | ⟨i, cs, e, g1, g2, g3, g4⟩
  ·exact .inl h2
  ·exact .inr ⟨i, cs, e, g1, g2, hx _ _ g3, g4⟩
theorem Acc.set (H : Acc R s h G h' bx v out) {b : Nat} {o : AObj} (hb : b ∈ bx) : Acc R s h G (upd h' b (some o)) bx v out := by
 refine ⟨H.hG, fun id o' e => ?_, fun c hc => ⟨(H.bxs c hc).1, ?_⟩, ?_⟩
 ·rw [upd_ne (fun e' => by rw [e', (H.bxs b hb).1] at e; cases e)]
  exact H.Gh id o' e
 ·unfold upd
  split
  ·simp
  ·exact (H.bxs c hc).2
 ·rcases H.own with h2 | ⟨i, cs, e, g1, g2, g3, g4⟩
  ·exact .inl h2
  ·exact .inr ⟨i, cs, e, g1, g2, by rw [upd_ne (fun e' => g2 (by rw [e']; exact hb))]; exact g3, g4⟩
theorem Acc.box (H : Acc R s h G h' bx v out) {b : Nat} {o : AObj} (hb : h' b = none) : Acc R s h G (upd h' b (some o)) (b :: bx) v out := by
 have hGb : G b = none := by
  cases e : G b with
  | none => rfl
  | some o => rw [H.Gh b o e] at hb; cases hb
 refine ⟨H.hG, H.Gh.trans (.upd hb), fun c hc => ?_, ?_⟩
 ·rcases List.mem_cons.1 hc with rfl | hc
  ·exact ⟨hGb, by rw [upd_same]; simp⟩
  ·refine ⟨(H.bxs c hc).1, ?_⟩
   rw [upd_ne (fun e => (H.bxs c hc).2 (by rw [e]; exact hb))]
   exact (H.bxs c hc).2
 ·rcases H.own with h2 | ⟨i, cs, e, g1, g2, g3, g4⟩
  ·exact .inl h2
  ·have hib : i ≠ b := fun e' => by rw [e', hb] at g3; cases g3
   exact .inr ⟨i, cs, e, g1, by simp [hib, g2], by rw [upd_ne hib]; exact g3, g4⟩
theorem Acc.osl (H : Acc R s h G h' bx v out) : ∃ cs, Chunks (R G) s cs out ∧ OSl (minus h' v) s v cs out.length h' := by
 rcases H.own with ⟨rfl, rfl⟩ | ⟨i, cs, rfl, g1, g2, g3, g4⟩
 ·exact ⟨[], .nil, .nil .refl⟩
 ·refine ⟨cs, g4, fun id o e => ?_, .inr ⟨i, rfl, upd_same, g3, g4.len⟩⟩
  by_cases hid : id = i
  ·subst hid
   rw [show minus h' (.sl id 0 out.length s) id = none from upd_same] at e
   cases e
  ·rw [show minus h' (.sl i 0 out.length s) id = h' id from upd_ne hid] at e
   exact e
theorem Acc.stay (H : Acc R s h G h' bx v out) : Ext G (minus h' v) ∧ ∀ b ∈ bx, minus h' v b = h' b := by
 rcases H.own with ⟨rfl, rfl⟩ | ⟨i, cs, rfl, g1, g2, g3, g4⟩
 ·exact ⟨H.Gh, fun _ _ => rfl⟩
 ·refine ⟨fun id o e => ?_, fun b hb => upd_ne (fun e => g2 (by rw [← e]; exact hb))⟩
  exact (upd_ne (fun hid => by rw [hid, g1] at e; cases e)).trans (H.Gh id o e)
theorem Acc.app (H : Acc R s h G h' bx v out) {cs c : List AV} {a : α} (hcs : Chunks (R G) s cs out) (hc : R G c a) (hl : c.length = s) (O : OSl (minus h' v) s v' (cs ++ c) (out.length + 1) h2) : Acc R s h G h2 bx v' (out ++ [a]) := by
 obtain ⟨s1, s2⟩ := H.stay
 have live : ∀ b ∈ bx, h2 b = h' b := fun b hb => by
  have h3 := (H.bxs b hb).2
  have h4 := s2 b hb
  cases e : h' b with
  | none => exact absurd e h3
  | some o => rw [O.ext b o (by rw [h4, e])]
 refine ⟨H.hG, s1.trans O.ext, fun b hb => ⟨(H.bxs b hb).1, by rw [live b hb]; exact (H.bxs b hb).2⟩, ?_⟩
 rcases O.own with ⟨_, _, h0⟩ | ⟨i, e, g1, g2, g3⟩
 ·omega
 ·refine .inr ⟨i, cs ++ c, by rw [e]; simp, ?_, fun hi => ?_, g2, hcs.append (.one hl hc)⟩
  ·cases e2 : G i with
   | none => rfl
   | some o => rw [s1 i o e2] at g1; cases g1
  ·rw [s2 i hi] at g1
   exact (H.bxs i hi).2 g1
theorem Acc.live {b : Nat} {o : AObj} (H : Acc R s h G h' bx v out) (O : Ext (minus h' v) h2) (hb : b ∈ bx) (e : h' b = some o) : h2 b = some o := O b o (by rw [H.stay.2 b hb, e])
theorem Acc.grow {G2 : Heap} (hR : Mono R) (H : Acc R s h G h' bx v out) (hx : Ext G G2) (hh : Ext G2 h') (hb : ∀ id, G id = none → (id ∈ bx ∨ ∃ n, v = .sl id 0 n s) → G2 id = none) : Acc R s h G2 h' bx v out := by
 refine ⟨H.hG.trans hx, hh, fun b hb2 => ⟨hb b (H.bxs b hb2).1 (.inl hb2), (H.bxs b hb2).2⟩, ?_⟩
 rcases H.own with h2 | ⟨i, cs, e, g1, g2, g3, g4⟩
 ·exact .inl h2
 ·exact .inr ⟨i, cs, e, hb i g1 (.inr ⟨_, e⟩), g2, g3, g4.imp fun c a => hR _ _ c a hx⟩
theorem Acc.fold (hR : Mono R) (H : Acc R s h G h' bx v out) : ∃ G2, Ext G G2 ∧ Ext G2 h' ∧ Sl R s G2 v out ∧ ∀ b ∈ bx, G2 b = none := by
 rcases H.own with ⟨rfl, rfl⟩ | ⟨i, cs, rfl, g1, g2, g3, g4⟩
 ·exact ⟨G, .refl, H.Gh, .nil, fun b hb => (H.bxs b hb).1⟩
 ·refine ⟨upd G i (some (.cells cs)), .upd g1, fun id o e => ?_, ⟨cs, .sl i 0 _ cs cs upd_same (sliceL_all g4.len), g4.imp fun c a => hR _ _ c a (.upd g1)⟩, fun b hb => ?_⟩
  ·unfold upd at e
   split at e
   ·rename_i hid
    rw [hid, g3, e]
   ·exact H.Gh id o e
  ·rw [upd_ne (fun e => g2 (by rw [← e]; exact hb))]
   exact (H.bxs b hb).1
theorem Acc.live0 (H : Acc R s h G h' bx v out) {id : Nat} (hid : id ∈ bx ∨ ∃ n, v = .sl id 0 n s) : h' id ≠ none := by
 rcases hid with hid | ⟨n, rfl⟩
 ·exact (H.bxs id hid).2
 ·rcases H.own with ⟨h0, _⟩ | ⟨i, cs, e, g1, g2, g3, g4⟩
  ·cases h0
  ·cases e
   rw [g3]
   simp
theorem Acc.growD {s' n : Nat} {w : AV} {cs : List AV} {q : Heap} (hR : Mono R) (H : Acc R s h G h' bx v out) (O : OSl h' s' w cs n q) : ∃ G1, Ext G G1 ∧ VSl G1 s' w cs n ∧ Acc R s h G1 q bx v out := by
 obtain ⟨G1, g1, g2, g3, g4⟩ := OSl_grow O H.Gh
 exact ⟨G1, g1, g3, (H.up O.ext).grow hR g1 g2 fun id h0 hid => g4 id h0 (.inl (H.live0 hid))⟩
theorem Acc.growO {s' n b5 : Nat} {w : AV} {cs : List AV} {q : Heap} (hR : Mono R) (H : Acc R s h G h' bx v out) (hb : b5 ∈ bx) (O : OSl (killL [b5] h') s' w cs n q) (h0 : ∀ id ∈ [b5], q id = none) :
  ∃ G1, Ext G G1 ∧ VSl G1 s' w cs n ∧ Acc R s h G1 (joinS [b5] h' q) bx v out := by
 have hGk : Ext G (killL [b5] h') := H.Gh.kill fun i hi => by
  simp only [List.mem_cons, List.not_mem_nil, or_false] at hi
  subst hi
  exact (H.bxs _ hb).1
 obtain ⟨G1, g1, g2, g3, g4⟩ := OSl_grow O hGk
 have key : ∀ id, G id = none → (id ∈ bx ∨ ∃ n, v = .sl id 0 n s) → G1 id = none := fun id e hid => by
  refine g4 id e ?_
  by_cases hi : id = b5
  ·right
   rw [hi]
   exact h0 b5 (by simp)
  ·left
   rw [kill_out (by simpa using hi)]
   exact H.live0 hid
 refine ⟨G1, g1, g3, (H.up (ext_join O.ext)).grow hR g1 (ext_joinR g2 fun id hid => ?_) key⟩
 simp only [List.mem_cons, List.not_mem_nil, or_false] at hid
 subst hid
 exact key _ (H.bxs _ hb).1 (.inl hb)
end
theorem trees_append : ∀ (a b : List AV), AV.trees (a ++ b) = (AV.trees a && AV.trees b)
 | [], b => by simp [AV.trees]
 | x :: a, b => by
  rw [List.cons_append]
  simp only [AV.trees]
  rw [trees_append a b, Bool.and_assoc]
theorem vsl_tree {g h : Heap} {s n : Nat} {v : AV} {cs : List AV} (H : VSl g s v cs n) (ht : v.tree = true) : VSl h s v cs n ∧ AV.trees cs = true := by
 cases H with
 | nil => exact ⟨.nil, rfl⟩
 | tsl _ _ hl => exact ⟨.tsl _ _ hl, by simpa [AV.tree] using ht⟩
 | sl _ _ _ _ _ _ _ => cases ht
def TreeR {α : Type} (R : Heap → List AV → α → Prop) : Prop := ∀ g h c a, AV.trees c = true → R g c a → R h c a
theorem sl_tree {α : Type} {R : Heap → List AV → α → Prop} (hR : TreeR R) {g h : Heap} {s : Nat} {v : AV} {l : List α} (H : Sl R s g v l) (ht : v.tree = true) : Sl R s h v l := by
 obtain ⟨cs, h1, h2⟩ := H
 obtain ⟨h3, h4⟩ := vsl_tree (h := h) h1 ht
 refine ⟨cs, h3, ?_⟩
 clear h1 h3
 induction h2 with
 | nil => exact .nil
 | cons hl ha H ih =>
  rw [trees_append, Bool.and_eq_true] at h4
  exact .cons hl (hR _ _ _ _ h4.1 ha) (ih h4.2)
theorem tr_n {k : IntKind} : TreeR (RN k) := fun _ _ _ _ _ h => h
theorem tr_b : TreeR RB := fun _ _ _ _ _ h => h
theorem tr_p : TreeR RPair := fun _ _ _ _ _ h => h
theorem tr_f : TreeR RFour := fun _ _ _ _ _ h => h
theorem tr_c : TreeR RCls := by
 rintro g h c a ht ⟨vr, vs, vt, vf, rfl, h1, h2, h3, h4⟩
 simp only [AV.trees, Bool.and_eq_true] at ht
 exact ⟨vr, vs, vt, vf, rfl, sl_tree tr_b h1 ht.2.2.2.1, sl_tree tr_n h2 ht.2.2.2.2.1, sl_tree tr_n h3 ht.2.2.2.2.2.1, sl_tree tr_p h4 ht.2.2.2.2.2.2.1⟩
theorem tr_m : TreeR RMth := by
 rintro g h c a ht ⟨vc, vt, rfl, h1, h2⟩
 simp only [AV.trees, Bool.and_eq_true] at ht
 exact ⟨vc, vt, rfl, sl_tree tr_f h1 ht.2.2.2.2.1, sl_tree tr_f h2 ht.2.2.2.2.2.1⟩
theorem tr_i : TreeR RImg := by
 rintro g h c a ht ⟨vc, vm, vg, vw, vr, vs, vf, rfl, h1, h2, h3, h4, h5, h6, h7⟩
 simp only [AV.trees, Bool.and_eq_true] at ht
 exact ⟨vc, vm, vg, vw, vr, vs, vf, rfl, sl_tree tr_c h1 ht.1, sl_tree tr_m h2 ht.2.1, sl_tree tr_n h3 ht.2.2.2.2.1, sl_tree tr_n h4 ht.2.2.2.2.2.1, sl_tree tr_n h5 ht.2.2.2.2.2.2.1, sl_tree tr_n h6 ht.2.2.2.2.2.2.2.1, sl_tree tr_b h7 ht.2.2.2.2.2.2.2.2.1⟩
end Go.Proofs
