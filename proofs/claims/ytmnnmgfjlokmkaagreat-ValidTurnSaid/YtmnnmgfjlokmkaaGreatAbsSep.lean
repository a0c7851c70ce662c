import Derived.Test.YtmnnmgfjlokmkaaGreatAbsLs
namespace Go.Abs
abbrev OL := List (Nat × AObj)
section
variable {α : Type} {RL : List AV → α → OL → Prop} {R : Heap → List AV → α → Prop} {s : Nat} {cs c : List AV} {l : List α} {a : α} {L M : OL} {v : AV} {h G : Heap}
theorem hset_app {h : Heap} : ∀ {L M : OL}, hset h (L ++ M) = hset (hset h M) L
 | [], _ => rfl
 | (i, o) :: L, M => by
  show upd (hset h (L ++ M)) i (some o) = upd (hset (hset h M) L) i (some o)
  rw [hset_app]
theorem dis_app {h : Heap} : ∀ {L M : OL}, Dis h (L ++ M) ↔ Dis (hset h M) L ∧ Dis h M
 | [], _ => ⟨fun h => ⟨trivial, h⟩, fun h => h.2⟩
 | (i, o) :: L, M => by
  show hset h (L ++ M) i = none ∧ Dis h (L ++ M) ↔ (hset (hset h M) L i = none ∧ Dis (hset h M) L) ∧ Dis h M
  rw [hset_app, dis_app, and_assoc]
inductive ChunksL {α : Type} (R : List AV → α → OL → Prop) (s : Nat) : List AV → List α → OL → Prop where
 | nil : ChunksL R s [] [] []
 | cons {c cs : List AV} {a : α} {l : List α} {L M : OL} (hl : c.length = s) (ha : R c a L) (H : ChunksL R s cs l M) : ChunksL R s (c ++ cs) (a :: l) (L ++ M)
theorem ChunksL.len (H : ChunksL RL s cs l L) : cs.length = l.length * s := by
 induction H with
 | nil => simp
 | cons hl ha H ih => rw [List.length_append, hl, ih, List.length_cons, Nat.add_mul]; omega
theorem ChunksL.snoc (H : ChunksL RL s cs l L) (hl : c.length = s) (ha : RL c a M) : ChunksL RL s (cs ++ c) (l ++ [a]) (L ++ M) := by
 induction H with
 | nil =>
  have := ChunksL.cons hl ha (.nil (R := RL) (s := s))
  simpa using this
 | cons hl' ha' H ih =>
  rw [List.append_assoc, List.append_assoc]
  exact .cons hl' ha' ih
theorem ChunksL.focus (H : ChunksL RL s cs l L) : ∀ {k : Nat} (hk : k < l.length), ∃ L1 Lk L2, L = L1 ++ (Lk ++ L2) ∧ RL ((cs.drop (k * s)).take s) l[k] Lk ∧ ((cs.drop (k * s)).take s).length = s ∧
  ∀ c' a' M, c'.length = s → RL c' a' M → ChunksL RL s (cs.take (k * s) ++ (c' ++ cs.drop (k * s + s))) (l.set k a') (L1 ++ (M ++ L2)) := by
 induction H with
 | nil => intro k hk; simp at hk
 | @cons c cs a l L M hl ha H ih =>
  intro k hk
  cases k with
  | zero =>
   refine ⟨[], L, M, rfl, ?_, ?_, fun c' a' M' h1 h2 => ?_⟩
   ·simp only [Nat.zero_mul, List.drop_zero, List.getElem_cons_zero]
    rw [← hl, List.take_left]
    exact ha
   ·rw [Nat.zero_mul, List.drop_zero, ← hl, List.take_left]
   ·have e : (c ++ cs).drop (0 * s + s) = cs := by rw [Nat.zero_mul, Nat.zero_add, ← hl, List.drop_left]
    rw [e, Nat.zero_mul, List.take_zero, List.nil_append, List.nil_append, List.set_cons_zero]
    exact .cons h1 h2 H
  | succ k =>
   obtain ⟨L1, Lk, L2, rfl, h2, h3, h4⟩ := ih (k := k) (by simpa using hk)
   have e1 : (c ++ cs).drop ((k + 1) * s) = cs.drop (k * s) := by
    rw [List.drop_append, Nat.add_mul, hl, List.drop_of_length_le (by omega), List.nil_append]
    congr 1
    omega
   have e2 : (c ++ cs).drop ((k + 1) * s + s) = cs.drop (k * s + s) := by
    rw [List.drop_append, Nat.add_mul, hl, List.drop_of_length_le (by omega), List.nil_append]
    congr 1
    omega
   have e3 : (c ++ cs).take ((k + 1) * s) = c ++ cs.take (k * s) := by
    rw [List.take_append, Nat.add_mul, hl, List.take_of_length_le (by omega)]
    congr 2
    omega
   refine ⟨L ++ L1, Lk, L2, by rw [List.append_assoc], ?_, ?_, fun c' a' M' g1 g2 => ?_⟩
   ·rw [e1]; exact h2
   ·rw [e1]; exact h3
   ·rw [e2, e3, List.append_assoc, List.append_assoc, List.set_cons_succ]
    exact .cons hl ha (h4 c' a' M' g1 g2)
def SlL {α : Type} (R : List AV → α → OL → Prop) (s : Nat) (v : AV) (l : List α) (L : OL) : Prop := (v = .nil .sl ∧ l = [] ∧ L = []) ∨ ∃ i cs M, v = .sl i 0 l.length s ∧ L = (i, .cells cs) :: M ∧ ChunksL R s cs l M
theorem SlL.one (H : SlL RL s v l L) : v.one = true := by
 rcases H with ⟨rfl, _⟩ | ⟨_, _, _, rfl, _⟩ <;> rfl
theorem SlL.focus (H : SlL RL s v l L) {k : Nat} (hk : k < l.length) : ∃ i cs L1 Lk L2, v = .sl i 0 l.length s ∧ L = (i, .cells cs) :: (L1 ++ (Lk ++ L2)) ∧ cs.length = l.length * s ∧ RL ((cs.drop (k * s)).take s) l[k] Lk ∧ ((cs.drop (k * s)).take s).length = s ∧
  ∀ c' a' M, c'.length = s → RL c' a' M → SlL RL s v (l.set k a') ((i, .cells (cs.take (k * s) ++ (c' ++ cs.drop (k * s + s)))) :: (L1 ++ (M ++ L2))) := by
 rcases H with ⟨rfl, rfl, rfl⟩ | ⟨i, cs, M, rfl, rfl, C⟩
 ·simp at hk
 ·obtain ⟨L1, Lk, L2, rfl, h2, h3, h4⟩ := C.focus hk
  refine ⟨i, cs, L1, Lk, L2, rfl, rfl, C.len, h2, h3, fun c' a' M g1 g2 => .inr ⟨i, _, _, by rw [List.length_set], rfl, h4 c' a' M g1 g2⟩⟩
theorem set_chunk {cs : List AV} {a s o : Nat} {x : AV} (ha : a + s ≤ cs.length) (ho : o < s) : cs.set (a + o) x = cs.take a ++ (((cs.drop a).take s).set o x ++ cs.drop (a + s)) := by
 apply List.ext_getElem?
 intro n
 simp only [List.getElem?_set, List.getElem?_append, List.length_take, List.length_set, List.length_drop, List.getElem?_take, List.getElem?_drop]
 have e1 : min a cs.length = a := by omega
 have e2 : min s (cs.length - a) = s := by omega
 rw [e1, e2]
 by_cases h1 : n < a
 ·rw [if_neg (by omega), if_pos h1, if_pos h1]
 ·rw [if_neg h1]
  by_cases h2 : n - a < s
  ·rw [if_pos h2, if_pos h2]
   by_cases h3 : a + o = n
   ·rw [if_pos h3, if_pos (by omega), if_pos (by omega), if_pos (by omega)]
   ·rw [if_neg h3, if_neg (by omega), show a + (n - a) = n by omega]
  ·rw [if_neg (by omega), if_neg h2, show a + s + (n - a - s) = n by omega]
def Has (h : Heap) (L : OL) : Prop := ∀ p ∈ L, h p.1 = some p.2
theorem Has.of_dis (hD : Dis G L) : Has (hset G L) L := fun _ hp => hset_mem hD hp
theorem Has.up {h h' : Heap} (H : Has h L) (hx : Ext h h') : Has h' L := fun p hp => hx _ _ (H p hp)
theorem Has.fst (H : Has h (L ++ M)) : Has h L := fun p hp => H p (List.mem_append.2 (.inl hp))
theorem Has.snd (H : Has h (L ++ M)) : Has h M := fun p hp => H p (List.mem_append.2 (.inr hp))
theorem has_app : Has h (L ++ M) ↔ Has h L ∧ Has h M := ⟨fun H => ⟨H.fst, H.snd⟩, fun H p hp => (List.mem_append.1 hp).elim (H.1 p) (H.2 p)⟩
theorem has_cons {x : Nat × AObj} : Has h (x :: L) ↔ h x.1 = some x.2 ∧ Has h L := ⟨fun H => ⟨H _ (.head _), fun p hp => H p (.tail _ hp)⟩, fun H p hp => by
 rcases List.mem_cons.1 hp with rfl | hp
 ·exact H.1
 ·exact H.2 p hp⟩
def Sees (RL : List AV → α → OL → Prop) (R : Heap → List AV → α → Prop) : Prop := ∀ h c a L, Has h L → RL c a L → R h c a
theorem ChunksL.view (hS : Sees RL R) (H : ChunksL RL s cs l L) : Has h L → Chunks (R h) s cs l := by
 induction H with
 | nil => exact fun _ => .nil
 | cons hl ha H ih => exact fun hh => .cons hl (hS _ _ _ _ hh.fst ha) (ih hh.snd)
theorem SlL.view (hS : Sees RL R) (H : SlL RL s v l L) (hh : Has h L) : Sl R s h v l := by
 rcases H with ⟨rfl, rfl, rfl⟩ | ⟨i, cs, M, rfl, rfl, C⟩
 ·exact .nil
 ·exact ⟨cs, .sl i 0 _ cs cs (hh _ (.head _)) (sliceL_all C.len), C.view hS fun p hp => hh p (.tail _ hp)⟩
def leaf (R : Heap → List AV → α → Prop) : List AV → α → OL → Prop := fun c a L => (∀ h, R h c a) ∧ L = []
theorem leaf_sees : Sees (leaf R) R := fun h _ _ _ _ H => H.1 h
theorem ChunksL.leafs (H : ChunksL (leaf R) s cs l L) : L = [] := by
 induction H with
 | nil => rfl
 | cons hl ha H ih => rw [ha.2, ih]; rfl
theorem ChunksL.of_leaf (H : ∀ h, Chunks (R h) s cs l) : ChunksL (leaf R) s cs l [] := by
 have aux : ∀ {cs : List AV} {l : List α} (h0 : Heap), Chunks (R h0) s cs l → (∀ h, Chunks (R h) s cs l) → ChunksL (leaf R) s cs l [] := by
  intro cs l h0 C
  induction C with
  | nil => exact fun _ => .nil
  | @cons c cs a l hl ha C ih =>
   intro H
   have key : ∀ h, R h c a ∧ Chunks (R h) s cs l := fun h => by
    have := H h
    generalize hx : c ++ cs = x at this
    cases this with
    | cons hl' ha' C' =>
     obtain ⟨rfl, rfl⟩ := List.append_inj hx (hl.trans hl'.symm)
     exact ⟨ha', C'⟩
   exact .cons (L := []) (M := []) hl ⟨fun h => (key h).1, rfl⟩ (ih fun h => (key h).2)
 exact aux (fun _ => none) (H _) H
end
section
variable {α β : Type} {RL : List AV → α → OL → Prop} {R : Heap → List AV → β → Prop} {h G G2 : Heap} {L L0 M : OL} {s s' n : Nat} {v w : AV} {cs ds : List AV} {l : List α} {m : List β}
theorem sep_add (hD : Dis h L) (O : OSl (hset h L) s v cs n G) (O2 : OSl G s' w ds m.length G2) (C : ChunksL (leaf R) s' ds m []) : ∃ Lw, SlL (leaf R) s' w m Lw ∧ Dis h (L ++ Lw) ∧ OSl (hset h (L ++ Lw)) s v cs n G2 := by
 rcases O2.own with ⟨rfl, rfl, h0⟩ | ⟨i, rfl, h1, h2, h3⟩
 ·refine ⟨[], .inl ⟨rfl, List.length_eq_zero_iff.1 h0, rfl⟩, ?_, ?_⟩
  ·rw [List.append_nil]; exact hD
  ·rw [List.append_nil]; exact O.upE O2.ext
 ·have hi : hset h L i = none := by
   cases e : hset h L i with
   | none => rfl
   | some o => rw [O.ext _ _ e] at h1; cases h1
  have hl : i ∉ L.map Prod.fst := fun hc => by
   obtain ⟨⟨j, o⟩, hj, rfl⟩ := List.mem_map.1 hc
   rw [hset_mem hD hj] at hi
   cases hi
  have hhi : h i = none := (hset_out hl).symm.trans hi
  have e : hset h (L ++ [(i, .cells ds)]) = upd (hset h L) i (some (.cells ds)) := by rw [hset_app]; exact hset_upd hl
  refine ⟨[(i, .cells ds)], .inr ⟨i, ds, [], rfl, rfl, C⟩, ?_, ?_⟩
  ·refine dis_of ?_ fun id hid => ?_
   ·rw [List.map_append, List.nodup_append]
    refine ⟨dis_nodup hD, by simp, fun a ha b hb => ?_⟩
    obtain rfl : b = i := by simpa using hb
    exact fun e => hl (e ▸ ha)
   ·rw [List.map_append, List.mem_append] at hid
    rcases hid with hid | hid
    ·exact dis_ids hD id hid
    ·obtain rfl : id = i := by simpa using hid
     exact hhi
  ·rw [e]
   refine ⟨fun id o e => ?_, O.own.imp id fun ⟨j, e1, e2, e3, e4⟩ => ?_⟩
   ·unfold upd at e
    split at e
    ·rename_i he; rw [he, h2, e]
    ·exact O2.ext _ _ (O.ext _ _ e)
   ·have hj : j ≠ i := fun e => by rw [e, h1] at e3; cases e3
    exact ⟨j, e1, by rw [upd_ne hj]; exact e2, O2.ext _ _ e3, e4⟩
theorem sep_done (hD : Dis h (L0 ++ M)) (O : OSl (hset h (L0 ++ M)) s v cs l.length G) (C : ChunksL RL s cs l M) : ∃ Lv, SlL RL s v l Lv ∧ Dis h (L0 ++ Lv) ∧ Ext (hset h (L0 ++ Lv)) G := by
 rcases O.own with ⟨rfl, rfl, h0⟩ | ⟨i, rfl, h1, h2, h3⟩
 ·obtain rfl := List.length_eq_zero_iff.1 h0
  have : M = [] := by
   generalize hx : ([] : List α) = x, hy : ([] : List AV) = y at C
   cases C with
   | nil => rfl
   | cons => cases hx
  subst this
  exact ⟨[], .inl ⟨rfl, rfl, rfl⟩, hD, O.ext⟩
 ·have hD' : Dis h ((i, .cells cs) :: (L0 ++ M)) := ⟨h1, hD⟩
  obtain ⟨p1, p2⟩ := hset_perm (List.perm_middle (a := (i, AObj.cells cs)) (l₁ := L0) (l₂ := M)).symm hD'
  refine ⟨(i, .cells cs) :: M, .inr ⟨i, cs, M, rfl, rfl, C⟩, p2, ?_⟩
  rw [← p1]
  intro id o e
  replace e : upd (hset h (L0 ++ M)) i (some (.cells cs)) id = some o := e
  unfold upd at e
  split at e
  ·rename_i he; rw [he, h2, e]
  ·exact O.ext _ _ e
theorem sep_leaf (hD : Dis h L) (O2 : OSl G s' w ds m.length G2) (hx : Ext (hset h L) G) (C : ChunksL (leaf R) s' ds m []) : ∃ Lw, SlL (leaf R) s' w m Lw ∧ Dis h (L ++ Lw) ∧ Ext (hset h (L ++ Lw)) G2 := by
 obtain ⟨Lw, h1, h2, h3⟩ := sep_add (s := 0) (v := .nil .sl) (cs := []) (n := 0) hD (OSl.nil hx) O2 C
 exact ⟨Lw, h1, h2, h3.ext⟩
theorem pull_out {G : Heap} {L0 B K M : OL} (hp : L0.Perm (B ++ (K ++ M))) (hD : Dis G L0) : hset G L0 = hset (hset G (K ++ M)) B ∧ Dis (hset G (K ++ M)) B ∧ Dis G (K ++ M) := by
 obtain ⟨h1, h2⟩ := hset_perm hp hD
 exact ⟨h1.trans hset_app, dis_app.1 h2⟩
theorem sep_end (hD : Dis h L) (hx : Ext (hset h L) G) : ∃ G', G = hset G' L ∧ Dis G' L ∧ Ext h G' := by
 have hD' : Dis (killL (L.map Prod.fst) G) L := dis_of (dis_nodup hD) fun id hid => by
  unfold killL
  rw [if_pos (by simpa using hid)]
 refine ⟨killL (L.map Prod.fst) G, funext fun id => ?_, hD', fun id o e => ?_⟩
 ·by_cases hid : id ∈ L.map Prod.fst
  ·obtain ⟨⟨j, o⟩, hj, rfl⟩ := List.mem_map.1 hid
   rw [hset_mem hD' hj]
   exact hx _ _ (hset_mem hD hj)
  ·rw [hset_out hid]
   unfold killL
   rw [if_neg (by simpa using hid)]
 ·have hid : id ∉ L.map Prod.fst := fun hc => by rw [dis_ids hD id hc] at e; cases e
  unfold killL
  rw [if_neg (by simpa using hid)]
  exact hx _ _ (by rw [hset_out hid]; exact e)
theorem SlL.osl (H : SlL (leaf R) s v m L) (hD : Dis G (L ++ M)) : ∃ cs, OSl (hset G M) s v cs m.length (hset G (L ++ M)) ∧ ChunksL (leaf R) s cs m [] := by
 rcases H with ⟨rfl, rfl, rfl⟩ | ⟨i, cs, N, rfl, rfl, C⟩
 ·exact ⟨[], .nil .refl, .nil⟩
 ·obtain rfl := C.leafs
  exact ⟨cs, ⟨ext_hsetD (L := [(i, .cells cs)]) (dis_app.1 hD).1, .inr ⟨i, rfl, hD.1, upd_same, C.len⟩⟩, C⟩
theorem sep_back (hD : Dis G M) (O : OSl (hset G M) s v cs m.length G2) (C : ChunksL (leaf R) s cs m []) : ∃ G' L, SlL (leaf R) s v m L ∧ G2 = hset G' (L ++ M) ∧ Dis G' (L ++ M) ∧ Ext G G' := by
 obtain ⟨L, h1, h2, h3⟩ := sep_leaf hD O .refl C
 obtain ⟨p1, p2⟩ := hset_perm (List.perm_append_comm (l₁ := M) (l₂ := L)) h2
 rw [p1] at h3
 obtain ⟨G', e1, e2, e3⟩ := sep_end p2 h3
 exact ⟨G', L, h1, e1, e2, e3⟩
end
def HF {α : Type} (R : Heap → List AV → α → Prop) : Prop := ∀ g h c a, R g c a → R h c a
theorem sl_ones {α : Type} {R : Heap → List AV → α → Prop} {s : Nat} {h : Heap} {v : AV} {l : List α} (H : Sl R s h v l) (h1 : ∀ c a, R h c a → c.all AV.one = true) : ∃ cs, VSl h s v cs l.length ∧ Chunks (R h) s cs l ∧ cs.all AV.one = true := by
 obtain ⟨cs, a, b⟩ := H
 refine ⟨cs, a, b, ?_⟩
 clear a
 induction b with
 | nil => rfl
 | cons hl ha H ih => rw [List.all_append, h1 _ _ ha, ih]; rfl
theorem SlL.tree {α : Type} {RL : List AV → α → OL → Prop} {s : Nat} {v : AV} {l : List α} {L : OL} (H : SlL RL s v l L) (ht : v.tree = true) : L = [] := by
 rcases H with ⟨_, _, h⟩ | ⟨_, _, _, rfl, _⟩
 ·exact h
 ·cases ht
theorem kill_as {hb : Heap} {bx : List Nat} {L : OL} (hD : Dis hb L) (hs : ∀ i, i ∈ bx ↔ i ∈ L.map Prod.fst) : killL bx (hset hb L) = hb := by
 refine Eq.trans (funext fun id => ?_) (kill_hset hD)
 unfold killL
 have := hs id
 by_cases h : id ∈ bx
 ·rw [if_pos (by simpa using h), if_pos (by simpa using this.1 h)]
 ·rw [if_neg (by simpa using h), if_neg (by simpa using fun x => h (this.2 x))]
theorem HasSl.lift {hb h1 : Heap} {s n : Nat} {v : AV} {cs : List AV} {L : OL} (H : HasSl hb s v cs n h1) (hD : Dis h1 L) : HasSl (hset hb L) s v cs n (hset h1 L) := by
 cases H with
 | nil => exact .nil
 | sl i _ _ hi hl =>
  have hn : i ∉ L.map Prod.fst := fun hc => by
   have := dis_ids hD i hc
   rw [upd_same] at this
   cases this
  rw [hset_upd hn]
  exact .sl i _ _ (by rw [hset_out hn]; exact hi) hl
theorem HasSl.down {hb h : Heap} {s n : Nat} {v : AV} {cs : List AV} {L : OL} (H : HasSl (hset hb L) s v cs n h) (hD : Dis hb L) : ∃ h1, h = hset h1 L ∧ Dis h1 L ∧ HasSl hb s v cs n h1 := by
 cases H with
 | nil => exact ⟨hb, rfl, hD, .nil⟩
 | sl i _ _ hi hl =>
  have hn : i ∉ L.map Prod.fst := fun hc => by
   obtain ⟨⟨j, o⟩, hj, rfl⟩ := List.mem_map.1 hc
   rw [hset_mem hD hj] at hi
   cases hi
  rw [hset_out hn] at hi
  refine ⟨upd hb i (some (.cells cs)), (hset_upd hn).symm, dis_of (dis_nodup hD) fun id hid => ?_, .sl i _ _ hi hl⟩
  rw [upd_ne fun e => hn (by rw [← e]; exact hid)]
  exact dis_ids hD id hid
theorem dis_minus {hb : Heap} {v : AV} {L : OL} (hD : Dis hb L) : Dis (minus hb v) L := dis_of (dis_nodup hD) fun id hid => by
 have := dis_ids hD id hid
 cases v with
 | sl i _ _ _ =>
  show upd hb i none id = none
  unfold upd
  split
  ·rfl
  ·exact this
 | _ => exact this
section
variable {P : Program} {A : Ann} {f nt : Nat} {E : Env} {bx : List Nat} {hb : Heap} {L : OL} {Q : AX → Env → List Nat → Heap → Prop} {cls : List Cl} {h0 : Heap} {q : Nat}
theorem o_appL {g : Heap} {d s b : Nat} {x y : SX} {r : List SO} {vx vy : AV} {old new : List AV} {l n : Nat} (hD : Dis hb L) (hq : q = 0) (hlt : (decide (d < nt)) = true) (hx : ev (lk E) x = some vx) (hy : ev (lk E) y = some vy) (H0 : OSl g s vx old l hb) (hsrc : srcOf s (hset hb L) vy = some (new, n))
  (hlen : new.length = n * s) (hone : new.all AV.one = true) (hbd : (l + n) * (b + 1) ≤ 2 ^ 44) (H : ∀ v h1, OSl (minus hb vx) s v (old ++ new) (l + n) h1 → Ext g (minus hb vx) → Dis h1 L → SOps P A f nt h0 0 r ((d, v) :: E) bx (hset h1 L) Q) : SOps P A f nt h0 q (⟨some d, none, .app s b x y⟩ :: r) E bx (hset hb L) Q := by
 subst hq
 obtain ⟨g1, g2⟩ := H0.has
 refine o_app hlt hx hy (g1.lift hD) hsrc hlen hone hbd (.inl rfl) (fun h => by omega) fun v h1 hv => ?_
 obtain ⟨h2, rfl, hD2, hv2⟩ := hv.down (dis_minus hD)
 exact H v h2 (.of_has hv2 .refl) g2 hD2
theorem o_cpL {α : Type} {R : Heap → List AV → α → Prop} {l : List α} {g : Heap} {d s b : Nat} {x y : SX} {r : List SO} {w : AV} (hR : HF R) (hone : ∀ h c a, R h c a → c.all AV.one = true) (hD : Dis hb L) (hq : q = 0) (hlt : (decide (d < nt)) = true) (hx : ev (lk E) x = some (.nil .sl)) (hy : ev (lk E) y = some w) (hg : Ext g hb) (hw : Sl R s g w l)
  (hbd : l.length * (b + 1) ≤ 2 ^ 44) (H : ∀ v h1 cs, OSl hb s v cs l.length h1 → ChunksL (leaf R) s cs l [] → Dis h1 L → SOps P A f nt h0 0 r ((d, v) :: E) bx (hset h1 L) Q) : SOps P A f nt h0 q (⟨some d, none, .app s b x y⟩ :: r) E bx (hset hb L) Q := by
 obtain ⟨cs, c1, c2, c3⟩ := sl_ones hw (hone g)
 refine o_appL (new := cs) (n := l.length) hD hq hlt hx hy (OSl.nil .refl) (srcOf_V (c1.mono (hg.trans (ext_hsetD hD)))) c1.len c3 (by rw [Nat.zero_add]; exact hbd) fun v h1 O _ hD' => ?_
 rw [List.nil_append, Nat.zero_add] at O
 exact H v h1 cs O (.of_leaf fun h => c2.imp (hR g h)) hD'
theorem x_cpL {α : Type} {R : Heap → List AV → α → Prop} {l : List α} {g : Heap} {d s b : Nat} {x y : SX} {r : List SO} {w : AV} (hR : HF R) (hone : ∀ h c a, R h c a → c.all AV.one = true) (hD : Dis hb L) (hlt : (decide (d < nt)) = true) (hx : ev (lk E) x = some (.nil .sl)) (hy : ev (lk E) y = some w) (hg : Ext g hb) (hw : Sl R s g w l)
  (hbd : l.length * (b + 1) ≤ 2 ^ 44) (H : ∀ v h1 cs, OSl hb s v cs l.length h1 → ChunksL (leaf R) s cs l [] → Dis h1 L → SOpsX P A f nt (L.map Prod.fst) cls r ((d, v) :: E) bx (hset h1 L) Q) : SOpsX P A f nt (L.map Prod.fst) (.A :: cls) (⟨some d, none, .app s b x y⟩ :: r) E bx (hset hb L) Q := by
 obtain ⟨cs, c1, c2, c3⟩ := sl_ones hw (hone g)
 refine x_appL (new := cs) (n := l.length) hD hlt hx hy (OSl.nil .refl) (srcOf_V (c1.mono hg)) c1.len c3 (by rw [Nat.zero_add]; exact hbd) fun v h1 O _ hD' => ?_
 rw [List.nil_append, Nat.zero_add] at O
 exact H v h1 cs O (.of_leaf fun h => c2.imp (hR g h)) hD'
theorem x_lenL {α : Type} {R : Heap → List AV → α → Prop} {l : List α} {g : Heap} {d s : Nat} {x : SX} {r : List SO} {v : AV} (hD : Dis hb L) (hlt : (decide (d < nt)) = true) (hx : ev (lk E) x = some v) (hg : Ext g hb) (hv : Sl R s g v l)
  (H : SOpsX P A f nt (L.map Prod.fst) cls r ((d, .int .i64 l.length) :: E) bx (hset hb L) Q) : SOpsX P A f nt (L.map Prod.fst) (.A :: cls) (⟨some d, none, .len x none⟩ :: r) E bx (hset hb L) Q := by
 refine x_AL (R := fun E' bx' h1 => E' = (d, .int .i64 l.length) :: E ∧ bx' = bx ∧ h1 = hb) hD (o_lenG hlt hx hg hv (o_nil ⟨rfl, rfl, rfl, rfl⟩)) ?_
 rintro _ _ _ ⟨rfl, rfl, rfl⟩ _
 exact H
end
end Go.Abs
