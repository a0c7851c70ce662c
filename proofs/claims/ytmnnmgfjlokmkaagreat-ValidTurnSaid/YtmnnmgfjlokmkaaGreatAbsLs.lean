import Derived.Test.YtmnnmgfjlokmkaaGreatAbsTac
import Derived.Test.YtmnnmgfjlokmkaaGreatAbsRegZ
import Derived.Test.YtmnnmgfjlokmkaaGreatAbsBeside
namespace Go.Abs
theorem tA {p q : Prop} (x : q) (h : q → p := by intro x; (repeat (first
 | ((with_reducible apply o_valM); exact rfl; exact rfl; exact rfl; exact trivial)
 | (with_reducible first | apply s_seq | apply s_reg0 | apply s_skip | apply s_block | apply s_exit | apply s_ret | apply o_nil | apply ssq_norm | apply ssq_exit | apply ssq_ret | apply sbq_hit | apply sbq_norm | apply sbq_ret | apply slq_exit | apply slq_ret | apply slqB_exit | apply slqB_ret | apply jqB_exit | apply jqB_ret | apply jq_exit | apply jq_ret)
 | ((with_reducible apply s_condT); exact rfl) | ((with_reducible apply s_condF); exact rfl) | ((with_reducible apply o_guardT); exact rfl; exact rfl) | ((with_reducible apply o_guardF); exact rfl; exact rfl) | ((with_reducible apply o_guardU); exact rfl; exact rfl) | ((with_reducible apply sbq_miss); exact rfl))); exact x) : p := h x
theorem hset_out {hb : Heap} : ∀ {L : List (Nat × AObj)} {id : Nat}, id ∉ L.map Prod.fst → hset hb L id = hb id
 | [], _, _ => rfl
 | (i, o) :: L, id, h => by
  simp only [List.map_cons, List.mem_cons, not_or] at h
  simp only [hset, upd, if_neg h.1, hset_out h.2]
theorem hset_upd {hb : Heap} {i : Nat} {o : Option AObj} : ∀ {L : List (Nat × AObj)}, i ∉ L.map Prod.fst → hset (upd hb i o) L = upd (hset hb L) i o
 | [], _ => rfl
 | (j, _) :: L, h => by
  simp only [List.map_cons, List.mem_cons, not_or] at h
  simp only [hset, hset_upd h.2]
  rw [upd_comm h.1]
theorem dis_ids {hb : Heap} : ∀ {L : List (Nat × AObj)}, Dis hb L → ∀ id ∈ L.map Prod.fst, hb id = none
 | [], _, _, h => by cases h
 | (i, o) :: L, hD, id, h => by
  rcases List.mem_cons.1 h with rfl | h
  ·exact hset_none hD.1
  ·exact dis_ids hD.2 id h
theorem dis_nodup {hb : Heap} : ∀ {L : List (Nat × AObj)}, Dis hb L → (L.map Prod.fst).Nodup
 | [], _ => List.nodup_nil
 | (i, o) :: L, hD => by
  refine List.nodup_cons.2 ⟨fun h => ?_, dis_nodup hD.2⟩
  obtain ⟨⟨j, o'⟩, hj, rfl⟩ := List.mem_map.1 h
  obtain ⟨k, hk⟩ := List.mem_iff_getElem?.1 hj
  have := hset_get hD.2 hk
  rw [hD.1] at this
  cases this
theorem dis_of {hb : Heap} : ∀ {L : List (Nat × AObj)}, (L.map Prod.fst).Nodup → (∀ id ∈ L.map Prod.fst, hb id = none) → Dis hb L
 | [], _, _ => trivial
 | (i, o) :: L, hN, h => by
  have hN := List.nodup_cons.1 hN
  exact ⟨by rw [hset_out hN.1]; exact h i (.head _), dis_of hN.2 fun id hid => h id (.tail _ hid)⟩
theorem hset_mem {hb : Heap} {L : List (Nat × AObj)} {id : Nat} {o : AObj} (hD : Dis hb L) (h : (id, o) ∈ L) : hset hb L id = some o := by
 obtain ⟨k, hk⟩ := List.mem_iff_getElem?.1 h
 exact hset_get hD hk
theorem hset_perm {hb : Heap} {L L' : List (Nat × AObj)} (p : L.Perm L') (hD : Dis hb L) : hset hb L = hset hb L' ∧ Dis hb L' := by
 have hD' : Dis hb L' := dis_of ((p.map _).nodup (dis_nodup hD)) fun id hid => dis_ids hD id ((p.map _).mem_iff.2 hid)
 refine ⟨funext fun id => ?_, hD'⟩
 by_cases h : id ∈ L.map Prod.fst
 ·obtain ⟨⟨j, o⟩, hj, rfl⟩ := List.mem_map.1 h
  rw [hset_mem hD hj, hset_mem hD' (p.mem_iff.1 hj)]
 ·rw [hset_out h, hset_out fun h' => h ((p.map _).mem_iff.2 h')]
theorem kill_hset {hb : Heap} {L : List (Nat × AObj)} (hD : Dis hb L) : killL (L.map Prod.fst) (hset hb L) = hb := by
 funext id
 unfold killL
 by_cases h : id ∈ L.map Prod.fst
 ·rw [if_pos (by simpa using h), dis_ids hD id h]
 ·rw [if_neg (by simpa using h), hset_out h]
theorem join_hset {h G : Heap} {L : List (Nat × AObj)} : joinS (L.map Prod.fst) (hset h L) G = hset G L := by
 funext id
 unfold joinS
 by_cases e : id ∈ L.map Prod.fst
 ·rw [if_pos (by simpa using e)]
  induction L with
  | nil => cases e
  | cons x L ih =>
   obtain ⟨i, o⟩ := x
   simp only [hset, upd]
   by_cases hi : id = i
   ·rw [if_pos hi, if_pos hi]
   ·rw [if_neg hi, if_neg hi]
    exact ih (by rcases List.mem_cons.1 e with h | h; exact absurd h hi; exact h)
 ·rw [if_neg (by simpa using e), hset_out e]
theorem dis_set {hb : Heap} {L : List (Nat × AObj)} {k id : Nat} {o o' : AObj} (_hD : Dis hb L) (h : L[k]? = some (id, o)) : (L.set k (id, o')).map Prod.fst = L.map Prod.fst := by
 apply List.ext_getElem?
 intro n
 simp only [List.getElem?_map, List.getElem?_set]
 split
 ·rename_i e
  subst e
  rw [h]
  split
  ·rfl
  ·rename_i hlt
   rw [List.getElem?_eq_none (by omega)] at h
   cases h
 ·rfl
theorem ids_none {h G : Heap} {L : List (Nat × AObj)} (hD : Dis G L) (hx : Ext h G) : ∀ i ∈ L.map Prod.fst, h i = none := fun i hi => by
 cases e : h i with
 | none => rfl
 | some o =>
  have := hx _ _ e
  rw [dis_ids hD i hi] at this
  cases this
theorem HCallC.frame {P : Program} {A : Ann} {g : Nat} {vs : List AV} {h : Heap} {S : List Nat} {Q : AV → Heap → Prop} (hS : ∀ id ∈ S, h id ≠ none) (H : HCallC P A g vs (killL S h) Q) : HCallC P A g vs h fun v h' => ∃ h1, Q v h1 ∧ (∀ id ∈ S, h1 id = none) ∧ h' = joinS S h h1 := by
 intro n hn
 have hlt : ∀ id ∈ S, id < n := fun id hid => by
  rcases Nat.lt_or_ge id n with hlt | hge
  ·exact hlt
  ·exact absurd (hn id hge) (hS id hid)
 have hfr : Fresh (killL S h) n := fun id hid => by
  unfold killL
  split
  ·rfl
  ·exact hn id hid
 obtain ⟨k, v, h2, n2, lg, e, q⟩ := H n hfr
 obtain ⟨st, loc⟩ := local_callN P A k g vs _ n _ _ _ _ hfr e
 have hout : ∀ id, id ∈ lg.1 ∨ id ∈ lg.2 → id ∉ S := by
  intro id hid hc
  refine st.live id hid (hlt id hc) ?_
  unfold killL
  rw [if_pos (by simpa using hc)]
 have key := loc h (fun id hid => by
  have : id ∉ S := by
   rcases hid with hid | hid | hid
   ·exact hout id (.inl hid)
   ·exact hout id (.inr hid)
   ·intro hc
    have := hlt id hc
    omega
  unfold killL
  rw [if_neg (by simpa using this)])
 have hov : over h h2 n n2 lg.2 = joinS S h h2 := by
  funext id
  unfold over joinS
  by_cases hc : id ∈ S
  ·have c1 : id ∉ lg.2 := fun hid => hout id (.inr hid) hc
   have := hlt id hc
   rw [if_neg (by intro hx; rcases hx with hx | hx; exact c1 hx; omega), if_pos (by simpa using hc)]
  ·rw [if_neg (c := S.contains id = true) (by simpa using hc)]
   split
   ·rfl
   ·rename_i hx
    simp only [not_or] at hx
    rw [st.same id hx.1 hx.2]
    unfold killL
    rw [if_neg (by simpa using hc)]
 rw [hov] at key
 refine ⟨k, v, _, n2, lg, key, h2, q, fun id hid => ?_, rfl⟩
 rw [st.same id (fun hx => hout id (.inr hx) hid) (by have := hlt id hid; omega)]
 unfold killL
 rw [if_pos (by simpa using hid)]
theorem HCallC.beside {P : Program} {A : Ann} {g : Nat} {vs : List AV} {hb : Heap} {L : List (Nat × AObj)} {Q : AV → Heap → Prop} (hD : Dis hb L) (H : HCallC P A g vs hb Q) : HCallC P A g vs (hset hb L) fun v h' => ∃ h1, Q v h1 ∧ Dis h1 L ∧ h' = hset h1 L := by
 refine (HCallC.frame (S := L.map Prod.fst) (fun id hid => ?_) (by rw [kill_hset hD]; exact H)).mono ?_
 ·obtain ⟨⟨j, o⟩, hj, rfl⟩ := List.mem_map.1 hid
  obtain ⟨k, hk⟩ := List.mem_iff_getElem?.1 hj
  rw [hset_get hD hk]
  simp
 ·rintro v _ ⟨h1, q, hn, rfl⟩
  exact ⟨h1, q, dis_of (dis_nodup hD) hn, join_hset⟩
section
variable {P : Program} {A : Ann} {f nt : Nat} {E : Env} {bx : List Nat} {hb : Heap} {L : List (Nat × AObj)} {Q : AX → Env → List Nat → Heap → Prop} {cls : List Cl}
theorem s_regL {ps : List (Nat × Nat)} {l : List SO} (cls : List Cl) (hD : Dis hb L) (H : SOpsX P A f nt (L.map Prod.fst) cls l E bx (hset hb L) Q) (hps : ps.all (fun p => match cls[p.1]?, cls[p.2]? with | some a, some b => okCl a b | _, _ => false) = true := by rfl) : SRun P A f nt (.reg ps l) E bx (hset hb L) Q := by
 refine s_regX (L.map Prod.fst) cls (fun id hid => ?_) hps H
 obtain ⟨⟨j, o⟩, hj, rfl⟩ := List.mem_map.1 hid
 obtain ⟨k, hk⟩ := List.mem_iff_getElem?.1 hj
 rw [hset_get hD hk]
 simp
theorem x_AL {o : SO} {l : List SO} {R : Env → List Nat → Heap → Prop} (hD : Dis hb L) (H1 : SOps P A f nt hb 0 [o] E bx hb fun x E' bx' h1 => x = .norm ∧ R E' bx' h1)
  (H2 : ∀ E' bx' h1, R E' bx' h1 → Dis h1 L → SOpsX P A f nt (L.map Prod.fst) cls l E' bx' (hset h1 L) Q) : SOpsX P A f nt (L.map Prod.fst) (.A :: cls) (o :: l) E bx (hset hb L) Q := by
 refine x_A (R := R) (by rw [kill_hset hD]; exact H1) fun E' bx' h1 hR hn => ?_
 rw [join_hset]
 exact H2 E' bx' h1 hR (dis_of (dis_nodup hD) hn)
theorem x_callL {d : Nat} {x : SX} {args : List SX} {r : List SO} {g : Nat} {first cap vs : List AV} {Q1 : AV → Heap → Prop} (hD : Dis hb L) (hlt : (decide (d < nt)) = true) (hx : ev (lk E) x = some (.fn g first cap)) (ha : evS (lk E) args = some vs)
  (hc : HCallC P A g (first ++ vs ++ cap) hb Q1) (H : ∀ v h1, Q1 v h1 → Dis h1 L → SOpsX P A f nt (L.map Prod.fst) cls r ((d, v) :: E) bx (hset h1 L) Q) : SOpsX P A f nt (L.map Prod.fst) (.A :: cls) (⟨some d, none, .call x args⟩ :: r) E bx (hset hb L) Q := by
 refine x_AL (R := fun E' bx' h1 => ∃ v, E' = (d, v) :: E ∧ bx' = bx ∧ Q1 v h1) hD (o_hcall rfl (by simpa [dstOk'] using hlt) hx ha hc fun w k q => o_nil ⟨rfl, w, rfl, rfl, q⟩) ?_
 rintro _ _ h1 ⟨v, rfl, rfl, q⟩ hD'
 exact H v h1 q hD'
theorem x_ldL {d : Nat} {x : SX} {r : List SO} {id off : Nat} {cs : List AV} {v : AV} (k : Nat) (hD : Dis hb L) (hlt : (decide (d < nt)) = true) (hx : ev (lk E) x = some (.ptr id off)) (hk : L[k]? = some (id, .cells cs)) (hv : cs[off]? = some v)
  (H : SOpsX P A f nt (L.map Prod.fst) cls r ((d, v) :: E) bx (hset hb L) Q) : SOpsX P A f nt (L.map Prod.fst) (.B :: cls) (⟨some d, none, .ld x none⟩ :: r) E bx (hset hb L) Q :=
 x_ld hlt hx (hset_get hD hk) (List.mem_map.2 ⟨_, List.mem_iff_getElem?.2 ⟨k, hk⟩, rfl⟩) hv H
theorem x_ldnL {d m : Nat} {x : SX} {r : List SO} {id off : Nat} {cs l : List AV} (k : Nat) (hD : Dis hb L) (hlt : (decide (d < nt)) = true) (hx : ev (lk E) x = some (.ptr id off)) (hk : L[k]? = some (id, .cells cs)) (hv : sliceL cs off m = some l)
  (H : SOpsX P A f nt (L.map Prod.fst) cls r ((d, .agg l) :: E) bx (hset hb L) Q) : SOpsX P A f nt (L.map Prod.fst) (.B :: cls) (⟨some d, none, .ld x (some m)⟩ :: r) E bx (hset hb L) Q :=
 x_ldB (v := .agg l) hlt hx (.p id off cs l (hset_get hD hk) (by rw [(slL_len hv).1]; exact hv)) (List.mem_map.2 ⟨_, List.mem_iff_getElem?.2 ⟨k, hk⟩, rfl⟩) (.many rfl (slL_len hv).1) H
theorem x_stL {dst : Option Nat} {x y : SX} {m : Nat} {r : List SO} {id off : Nat} {v : AV} {cs cs' : List AV} (k : Nat) (hD : Dis hb L) (hd : dstOk' nt dst = true) (hx : ev (lk E) x = some (.ptr id off)) (hk : L[k]? = some (id, .cells cs)) (hy : ev (lk E) y = some v) (hm : v.cells.length = m) (ho : v.cells.all AV.one = true)
  (hs' : spliceL cs off v.cells = some cs') (H : Dis hb (L.set k (id, .cells cs')) → SOpsX P A f nt ((L.set k (id, .cells cs')).map Prod.fst) cls r (undefE dst E) bx (hset hb (L.set k (id, .cells cs'))) Q) : SOpsX P A f nt (L.map Prod.fst) (.D :: cls) (⟨dst, none, .st x y m⟩ :: r) E bx (hset hb L) Q := by
 obtain ⟨e1, e2⟩ := hset_set (o' := .cells cs') hD hk
 have e3 := dis_set (o' := .cells cs') hD hk
 refine x_D (R := fun E' bx' k' => E' = undefE dst E ∧ bx' = bx ∧ k' = upd (hset hb L) id (some (.cells cs'))) (o_st rfl hd hx hy hm ho (hset_get hD hk) hs' (o_nil ⟨rfl, rfl, rfl, rfl⟩)) ?_
 rintro _ _ _ ⟨rfl, rfl, rfl⟩
 rw [e1, ← e3]
 refine ⟨fun i hi => ?_, H e2⟩
 obtain ⟨⟨j, o⟩, hj, rfl⟩ := List.mem_map.1 hi
 obtain ⟨n, hn⟩ := List.mem_iff_getElem?.1 hj
 rw [hset_get e2 hn]
 simp
theorem x_st1L {dst : Option Nat} {x y : SX} {r : List SO} {id off : Nat} {v : AV} {cs : List AV} (k : Nat) (hD : Dis hb L) (hd : dstOk' nt dst = true) (hx : ev (lk E) x = some (.ptr id off)) (hk : L[k]? = some (id, .cells cs)) (hy : ev (lk E) y = some v) (ho : v.one = true)
  (hlt : off < cs.length) (H : Dis hb (L.set k (id, .cells (cs.set off v))) → SOpsX P A f nt ((L.set k (id, .cells (cs.set off v))).map Prod.fst) cls r (undefE dst E) bx (hset hb (L.set k (id, .cells (cs.set off v)))) Q) : SOpsX P A f nt (L.map Prod.fst) (.D :: cls) (⟨dst, none, .st x y 1⟩ :: r) E bx (hset hb L) Q := by
 have hc : v.cells = [v] := by cases v <;> first | rfl | cases ho
 exact x_stL (v := v) k hD hd hx hk hy (by rw [hc]; rfl) (by rw [hc]; simp [ho]) (by rw [hc]; exact splice_one hlt) H
theorem ext_hsetD (hD : Dis hb L) : Ext hb (hset hb L) := fun id o e => by
 rw [hset_out fun h => by rw [dis_ids hD id h] at e; cases e]
 exact e
theorem OSl.ones {h : Heap} {s n : Nat} {v : AV} {cs : List AV} (H : OSl hb s v cs n h) : v.one = true := by
 rcases H.own with ⟨rfl, _⟩ | ⟨_, rfl, _⟩ <;> rfl
theorem OSl.upE {h h' : Heap} {s n : Nat} {v : AV} {cs : List AV} (H : OSl hb s v cs n h) (hx : Ext h h') : OSl hb s v cs n h' :=
 ⟨H.ext.trans hx, H.own.imp id fun ⟨i, h1, h2, h3, h4⟩ => ⟨i, h1, h2, hx _ _ h3, h4⟩⟩
theorem o_st1L {h0 : Heap} {q : Nat} {dst : Option Nat} {x y : SX} {r : List SO} {id off : Nat} {v : AV} {cs : List AV} (k : Nat) (hD : Dis hb L) (hq : q = 0) (hd : dstOk' nt dst = true) (hx : ev (lk E) x = some (.ptr id off)) (hk : L[k]? = some (id, .cells cs)) (hy : ev (lk E) y = some v) (ho : v.one = true)
  (hlt : off < cs.length) (H : Dis hb (L.set k (id, .cells (cs.set off v))) → SOps P A f nt h0 0 r (undefE dst E) bx (hset hb (L.set k (id, .cells (cs.set off v)))) Q) : SOps P A f nt h0 q (⟨dst, none, .st x y 1⟩ :: r) E bx (hset hb L) Q := by
 have hc : v.cells = [v] := by cases v <;> first | rfl | cases ho
 exact o_stL (v := v) k hD hq hd hx hk hy (by rw [hc]; rfl) (by rw [hc]; simp [ho]) (by rw [hc]; exact splice_one hlt) H
theorem o_callL {h0 : Heap} {q : Nat} {dst : Option Nat} {x : SX} {args : List SX} {r : List SO} {g : Nat} {first cap vs : List AV} {Q1 : AV → Heap → Prop} (hD : Dis hb L) (hq : q = 0) (hd : dstOk' nt dst = true) (hx : ev (lk E) x = some (.fn g first cap)) (ha : evS (lk E) args = some vs)
  (hc : HCallC P A g (first ++ vs ++ cap) hb Q1) (H : ∀ v h1, Q1 v h1 → Dis h1 L → SOps P A f nt h0 0 r (putE dst v E) bx (hset h1 L) Q) : SOps P A f nt h0 q (⟨dst, none, .call x args⟩ :: r) E bx (hset hb L) Q :=
 o_hcall hq hd hx ha (hc.beside hD) fun v h' ⟨h1, q, hD', e⟩ => by subst e; exact H v h1 q hD'
theorem x_appL {g : Heap} {d s b : Nat} {x y : SX} {r : List SO} {vx vy : AV} {old new : List AV} {l n : Nat} (hD : Dis hb L) (hlt : (decide (d < nt)) = true) (hx : ev (lk E) x = some vx) (hy : ev (lk E) y = some vy) (H0 : OSl g s vx old l hb) (hsrc : srcOf s hb vy = some (new, n))
  (hlen : new.length = n * s) (hone : new.all AV.one = true) (hbd : (l + n) * (b + 1) ≤ 2 ^ 44) (H : ∀ v h1, OSl (minus hb vx) s v (old ++ new) (l + n) h1 → Ext g (minus hb vx) → Dis h1 L → SOpsX P A f nt (L.map Prod.fst) cls r ((d, v) :: E) bx (hset h1 L) Q) : SOpsX P A f nt (L.map Prod.fst) (.A :: cls) (⟨some d, none, .app s b x y⟩ :: r) E bx (hset hb L) Q := by
 obtain ⟨g1, g2⟩ := H0.has
 refine x_AL (R := fun E' bx' h1 => ∃ v, E' = (d, v) :: E ∧ bx' = bx ∧ OSl (minus hb vx) s v (old ++ new) (l + n) h1) hD
  (o_app hlt hx hy g1 hsrc hlen hone hbd (.inl rfl) (fun h => by omega) fun v h1 hv => o_nil ⟨rfl, v, rfl, rfl, .of_has hv .refl⟩) ?_
 rintro _ _ h1 ⟨v, rfl, rfl, q⟩ hD'
 exact H v h1 q g2 hD'
theorem x_vM {S : List Nat} {h : Heap} {d : Nat} {k : SK} {r : List SO} {p : Prop} {v : AV} (_hk : reckK k = true) (hlt : (decide (d < nt)) = true) (hv : sv (lk E) k = some (p, v)) (hp : p) (H : SOpsX P A f nt S cls r ((d, v) :: E) bx h Q) : SOpsX P A f nt S (.A :: cls) (⟨some d, none, k⟩ :: r) E bx h Q := x_v hlt hv hp H
theorem tZ {p q : Prop} (x : q) (h : q → p := by intro x; (repeat (first
 | ((with_reducible apply x_vM); exact rfl; exact rfl; exact rfl; exact trivial)
 | ((with_reducible apply x_gT); exact rfl) | ((with_reducible apply x_gF); exact rfl; exact rfl) | ((with_reducible apply x_gU); exact rfl; exact rfl) | (with_reducible apply x_nil))); exact x) : p := h x
end
end Go.Abs
