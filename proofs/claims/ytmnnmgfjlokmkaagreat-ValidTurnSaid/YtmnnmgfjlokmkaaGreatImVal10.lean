import Derived.Test.YtmnnmgfjlokmkaaGreatAbsTac
import Derived.Test.YtmnnmgfjlokmkaaGreatImBegin
import Derived.Test.YtmnnmgfjlokmkaaGreatAbsRegZ
section
open Go Go.Abs Go.Proofs.SlimCode Go.Img
namespace Go.Img
def mAt (m : Image) (n : Int) : Mth := (m.methods[n.toNat]?).getD ⟨0, 0, 0, false, [], []⟩
def cAt (m : Image) (n : Int) : Cls := (m.classes[n.toNat]?).getD ⟨[], 0, 0, 0, 0, false, [], [], [], []⟩
def IsT (m : Image) (n : Int) : Prop := 0 ≤ n ∧ n < m.classes.length
def IsM (m : Image) (n : Int) : Prop := 0 ≤ n ∧ n < m.methods.length
def HasC (m : Image) (n : Int) : Prop := IsM m n ∧ 0 < (mAt m n).code.length
def Bare (m : Image) (n : Int) : Prop := HasC m n ∧ (mAt m n).args = 0 ∧ (mAt m n).gives = false
def Climbs (m : Image) : Nat → Int → Prop
 | 0, k => k = -1
 | f + 1, k => k = -1 ∨ (IsT m k ∧ Climbs m f (cAt m k).super)
def Rises (l : List Int) : Prop := ∀ i, i + 1 < l.length → l.getD i 0 < l.getD (i + 1) 0
def IsArr (m : Image) (n k : Int) : Prop := IsT m n ∧ (cAt m n).array = k
def EndsP (o : Int) : Prop := o = 20 ∨ o = 46 ∨ o = 47 ∨ o = 48 ∨ o = 58 ∨ o = 61
theorem mAt_at {m : Image} {n : Int} (h : IsM m n) : ∃ hk : n.toNat < m.methods.length, mAt m n = m.methods[n.toNat] := by
 have hk : n.toNat < m.methods.length := by unfold IsM at h; omega
 exact ⟨hk, by unfold mAt; rw [List.getElem?_eq_getElem hk]; rfl⟩
theorem cAt_at {m : Image} {n : Int} (h : IsT m n) : ∃ hk : n.toNat < m.classes.length, cAt m n = m.classes[n.toNat] := by
 have hk : n.toNat < m.classes.length := by unfold IsT at h; omega
 exact ⟨hk, by unfold cAt; rw [List.getElem?_eq_getElem hk]; rfl⟩
end Go.Img
set_option maxRecDepth 100000
namespace Go.Proofs
noncomputable def BP (P : Prop) : Bool := @decide P (Classical.propDecidable P)
theorem BP_true {P : Prop} (h : P) : BP P = true := @decide_eq_true P (Classical.propDecidable P) h
theorem BP_false {P : Prop} (h : ¬ P) : BP P = false := @decide_eq_false P (Classical.propDecidable P) h
theorem BP_congr {P Q : Prop} (h : P ↔ Q) : BP P = BP Q := by rw [propext h]
theorem yesB {f t : Nat} {P : Prop} {E : Env} {h h' : Heap} {bx : List Nat} (hE : lk E t = some (.bool true)) (hp : P) (hx : Ext h h') (hb : ∀ b ∈ bx, h b = none) : lret Tryz.prog ann f [.tmp t] h (.bool (BP P)) .ret E bx h' := lret_ret (vs := [.bool true]) (by simp only [resE, hE]) rfl (by rw [BP_true hp]; rfl) hx hb
theorem noB {f t : Nat} {P : Prop} {E : Env} {h h' : Heap} {bx : List Nat} (hE : lk E t = some (.bool false)) (hp : ¬ P) (hx : Ext h h') (hb : ∀ b ∈ bx, h b = none) : lret Tryz.prog ann f [.tmp t] h (.bool (BP P)) .ret E bx h' := lret_ret (vs := [.bool false]) (by simp only [resE, hE]) rfl (by rw [BP_false hp]; rfl) hx hb
theorem eqB {f t : Nat} {P : Prop} {v : Bool} {E : Env} {h h' : Heap} {bx : List Nat} (hE : lk E t = some (.bool v)) (hp : v = BP P) (hx : Ext h h') (hb : ∀ b ∈ bx, h b = none) : lret Tryz.prog ann f [.tmp t] h (.bool (BP P)) .ret E bx h' := lret_ret (vs := [.bool v]) (by simp only [resE, hE]) rfl (by rw [hp]; rfl) hx hb
theorem p75 {h : Heap} {n a b : Int} : Looks Tryz.prog ann 75 [I n, I a, I b] h (.bool (BP (a ≤ n ∧ n ≤ b))) := by
 refine s_look_of rfl Tryz.func75 (frc (by with_unfolding_all rfl)) rfl ?_
 refine tV ?_
 refine oB fun b1 hb => ?_
 by_cases H : a ≤ n
 rotate_left
 ·obtain rfl : b1 = false := by rw [hb]; simp; omega
  refine tW ?_
  exact noB rfl (fun h => H h.1) .refl (by simp)
 obtain rfl : b1 = true := by rw [hb]; simp; omega
 clear hb
 refine tV ?_
 refine oB fun b1 hb => ?_
 refine tW ?_
 refine eqB rfl ?_ .refl (by simp)
 rw [hb]
 by_cases H2 : n ≤ b
 ·rw [BP_true ⟨H, H2⟩]
  exact decide_eq_true H2
 ·rw [BP_false (fun h => H2 h.2)]
  exact decide_eq_false H2
theorem p79 {h : Heap} {c : List AV} {m : Image} {n : Int} (hc : RImg h c m) (hw : m.WF) : Looks Tryz.prog ann 79 [.agg c, I n] h (.bool (BP (IsT m n))) := by
 have hone := hc.one
 obtain ⟨vc, vm, vg, vw, vr, vs, vf, rfl, v1, v2, v3, v4, v5, v6, v7⟩ := hc
 have hl : Len m.classes := hw.classes.1
 unfold Len at hl
 refine s_look_of rfl Tryz.func79 (frc (by with_unfolding_all rfl)) rfl ?_
 refine tS ?_
 apply o_val rfl rfl hone
 refine tV ?_
 apply o_lenS rfl rfl v1
 apply o_as (w := I ((m.classes.length : Int) - 1)) rfl rfl trivial (by rw [w64 (by omega) (by omega)])
 apply o_hcall rfl rfl rfl rfl p75.go
 rintro _ k1 ⟨rfl, hx⟩
 refine tW ?_
 refine eqB rfl (BP_congr ?_) hx (by simp)
 unfold IsT
 omega
theorem p123 {h : Heap} {c : List AV} {m : Image} {n : Int} (hc : RImg h c m) (hw : m.WF) : Looks Tryz.prog ann 123 [.agg c, I n] h (.bool (BP (IsM m n))) := by
 have hone := hc.one
 obtain ⟨vc, vm, vg, vw, vr, vs, vf, rfl, v1, v2, v3, v4, v5, v6, v7⟩ := hc
 have hl : Len m.methods := hw.methods.1
 unfold Len at hl
 refine s_look_of rfl Tryz.func123 (frc (by with_unfolding_all rfl)) rfl ?_
 refine tS ?_
 apply o_val rfl rfl hone
 refine tV ?_
 apply o_lenS rfl rfl v2
 apply o_as (w := I ((m.methods.length : Int) - 1)) rfl rfl trivial (by rw [w64 (by omega) (by omega)])
 apply o_hcall rfl rfl rfl rfl p75.go
 rintro _ k1 ⟨rfl, hx⟩
 refine tW ?_
 refine eqB rfl (BP_congr ?_) hx (by simp)
 unfold IsM
 omega
theorem p117 {h : Heap} {c : List AV} {m : Image} {n : Int} (hc : RImg h c m) (hw : m.WF) : Looks Tryz.prog ann 117 [.agg c, I n] h (.bool (BP (HasC m n))) := by
 have hR := hc
 have hone := hc.one
 obtain ⟨vc, vm, vg, vw, vr, vs, vf, rfl, v1, v2, v3, v4, v5, v6, v7⟩ := hc
 refine s_look_of rfl Tryz.func117 (frc (by with_unfolding_all rfl)) rfl ?_
 refine tS ?_
 apply o_val rfl rfl hone
 refine tW ?_
 refine tV ?_
 apply o_hcall rfl rfl rfl rfl (p123 hR hw).go
 rintro _ k1 ⟨rfl, hy⟩
 have hx1 := Ext.refl.trans hy
 clear hy
 by_cases H1 : IsM m n
 rotate_left
 ·rw [BP_false H1]
  refine tW ?_
  exact noB rfl (fun h => H1 h.1) hx1 (by simp)
 rw [BP_true H1]
 obtain ⟨hk, em⟩ := mAt_at H1
 have hn0 : n = (n.toNat : Int) := by have := H1.1; omega
 refine tV ?_
 apply o_iaS (z := n.toNat) rfl rfl (by rw [← hn0]; rfl) (v2.mono RMth.mono hx1) hk
 intro p cs hp hcs hcl
 obtain ⟨wc, wt, rfl, u1, u2⟩ := hcs
 refine tV ?_
 apply o_faV [wc] rfl rfl hp rfl
 intro p2 hp2
 refine tV ?_
 apply o_ldV rfl rfl hp2 (fun h => by omega)
 refine tV ?_
 apply o_lenS rfl rfl u1
 refine tV ?_
 refine oB fun b hb => ?_
 refine tW ?_
 refine eqB rfl ?_ hx1 (by simp)
 rw [hb, ← em]
 by_cases H2 : 0 < (mAt m n).code.length
 ·rw [BP_true ⟨H1, H2⟩]
  exact decide_eq_true (by omega)
 ·rw [BP_false (fun h => H2 h.2)]
  exact decide_eq_false (by omega)
theorem p78 {h : Heap} {c : List AV} {m : Image} {n : Int} (hc : RImg h c m) (hw : m.WF) : Looks Tryz.prog ann 78 [.agg c, I n] h (.bool (BP (Bare m n))) := by
 have hR := hc
 have hone := hc.one
 obtain ⟨vc, vm, vg, vw, vr, vs, vf, rfl, v1, v2, v3, v4, v5, v6, v7⟩ := hc
 refine s_look_of rfl Tryz.func78 (frc (by with_unfolding_all rfl)) rfl ?_
 refine tS ?_
 apply o_val rfl rfl hone
 refine tW ?_
 refine tV ?_
 apply o_hcall rfl rfl rfl rfl (p117 hR hw).go
 rintro _ k1 ⟨rfl, hy⟩
 have hx1 := Ext.refl.trans hy
 clear hy
 by_cases H1 : HasC m n
 rotate_left
 ·rw [BP_false H1]
  refine tW ?_
  exact noB rfl (fun h => H1 h.1) hx1 (by simp)
 rw [BP_true H1]
 obtain ⟨hk, em⟩ := mAt_at H1.1
 have hn0 : n = (n.toNat : Int) := by have := H1.1.1; omega
 refine tV ?_
 apply o_iaS (z := n.toNat) rfl rfl (by rw [← hn0]; rfl) (v2.mono RMth.mono hx1) hk
 intro p cs hp hcs hcl
 obtain ⟨wc, wt, rfl, u1, u2⟩ := hcs
 refine tV ?_
 apply o_faV [I m.methods[n.toNat].args] rfl rfl hp rfl
 intro p2 hp2
 refine tV ?_
 apply o_ldV rfl rfl hp2 (fun h => by omega)
 refine tV ?_
 refine oB fun b hb => ?_
 by_cases H2 : (mAt m n).args = 0
 rotate_left
 ·obtain rfl : b = false := by rw [hb, ← em]; exact decide_eq_false H2
  refine tW ?_
  exact noB rfl (fun h => H2 h.2.1) hx1 (by simp)
 obtain rfl : b = true := by rw [hb, ← em]; exact decide_eq_true H2
 refine tV ?_
 apply o_iaS (z := n.toNat) rfl rfl (by rw [← hn0]; rfl) (v2.mono RMth.mono hx1) hk
 intro q cs hq hcs hcl
 obtain ⟨wc2, wt2, rfl, u3, u4⟩ := hcs
 refine tV ?_
 apply o_faV [.bool m.methods[n.toNat].gives] rfl rfl hq rfl
 intro q2 hq2
 refine tV ?_
 apply o_ldV rfl rfl hq2 (fun h => by omega)
 refine tV ?_
 apply o_val rfl rfl trivial
 refine tW ?_
 refine eqB rfl ?_ hx1 (by simp)
 rw [← em]
 cases hg : (mAt m n).gives with
 | false => rw [BP_true ⟨H1, H2, hg⟩]; rfl
 | true => rw [BP_false (fun h => by rw [h.2.2] at hg; cases hg)]; rfl
theorem p169 {h : Heap} {c : List AV} {m : Image} {n k : Int} (hc : RImg h c m) (hw : m.WF) : Looks Tryz.prog ann 169 [.agg c, I n, I k] h (.bool (BP (IsArr m n k))) := by
 have hR := hc
 have hone := hc.one
 obtain ⟨vc, vm, vg, vw, vr, vs, vf, rfl, v1, v2, v3, v4, v5, v6, v7⟩ := hc
 refine s_look_of rfl Tryz.func169 (frc (by with_unfolding_all rfl)) rfl ?_
 refine tS ?_
 apply o_val rfl rfl hone
 refine tW ?_
 refine tV ?_
 apply o_hcall rfl rfl rfl rfl (p79 hR hw).go
 rintro _ k1 ⟨rfl, hy⟩
 have hx1 := Ext.refl.trans hy
 clear hy
 by_cases H1 : IsT m n
 rotate_left
 ·rw [BP_false H1]
  refine tW ?_
  exact noB rfl (fun h => H1 h.1) hx1 (by simp)
 rw [BP_true H1]
 obtain ⟨hk, em⟩ := cAt_at H1
 have hn0 : n = (n.toNat : Int) := by have := H1.1; omega
 refine tV ?_
 apply o_iaS (z := n.toNat) rfl rfl (by rw [← hn0]; rfl) (v1.mono RCls.mono hx1) hk
 intro p cs hp hcs hcl
 obtain ⟨_, _, _, _, rfl, _⟩ := hcs
 refine tV ?_
 apply o_faV [I m.classes[n.toNat].array] rfl rfl hp rfl
 intro p2 hp2
 refine tV ?_
 apply o_ldV rfl rfl hp2 (fun h => by omega)
 refine tV ?_
 refine oB fun b hb => ?_
 refine tW ?_
 refine eqB rfl ?_ hx1 (by simp)
 rw [hb, ← em]
 by_cases H2 : (cAt m n).array = k
 ·rw [BP_true ⟨H1, H2⟩]
  exact decide_eq_true H2
 ·rw [BP_false (fun h => H2 h.2)]
  exact decide_eq_false H2
theorem p116 {h : Heap} : HCallC Tryz.prog ann 116 [] h fun v h' => Ext h h' ∧ ∃ i, v = .sl i 0 10 1 := by
 refine s_call_x rfl Tryz.func116 (frc (by with_unfolding_all rfl)) rfl ?_
 refine tV ?_
 apply o_hbs rfl rfl rfl
 intro i hi
 refine tW ?_
 (first | apply hx_ret | apply hx_norm)
 ·exact rfl
 ·exact rfl
 ·rw [killL_nil]
  exact ⟨.upd hi, i, rfl⟩
 ·exact fun h => by cases h
end Go.Proofs
end
section
open Go Go.Abs Go.Proofs.SlimCode Go.Img
set_option maxRecDepth 100000
namespace Go.Proofs
def fi {α : Type} (p : α → Bool) (l : List α) : Int := match l.findIdx? p with
 | some i => i
 | none => -1
theorem fi_at {α : Type} {p : α → Bool} {l : List α} {k : Nat} (hk : k < l.length) (h1 : p l[k] = true) (h0 : ∀ i, (hi : i < k) → p (l[i]'(by omega)) = false) : fi p l = k := by
 unfold fi
 rw [List.findIdx?_eq_some_iff_getElem.2 ⟨hk, h1, fun j hj => by rw [h0 j hj]; simp⟩]
theorem fi_none {α : Type} {p : α → Bool} {l : List α} (h0 : ∀ i, (hi : i < l.length) → p l[i] = false) : fi p l = -1 := by
 unfold fi
 rw [List.findIdx?_eq_none_iff.2 fun x hx => by obtain ⟨i, hi, rfl⟩ := List.mem_iff_getElem.1 hx; exact h0 i hi]
theorem fi_any {α : Type} (p : α → Bool) (l : List α) : decide (fi p l ≥ 0) = l.any p := by
 unfold fi
 cases h : l.findIdx? p with
 | none =>
  rw [List.findIdx?_eq_none_iff] at h
  have e : l.any p = false := by
   rw [List.any_eq_false]
   intro x hx
   rw [h x hx]
   decide
  rw [e]
  decide
 | some i =>
  rw [List.findIdx?_eq_some_iff_getElem] at h
  obtain ⟨hi, hp, _⟩ := h
  have e : l.any p = true := List.any_eq_true.2 ⟨l[i], List.getElem_mem hi, hp⟩
  rw [e]
  exact decide_eq_true (by simp only; omega)
def Asks {α : Type} (g0 : Nat) (first cap : List AV) (n : Option Nat) (R : Heap → List AV → α → Prop) (h : Heap) (l : List α) (p : α → Bool) : Prop :=
 ∀ x ∈ l, ∀ h' c v, Ext h h' → R h' c x → LdV n c v → Looks Tryz.prog ann g0 (first ++ [v] ++ cap) h' (.bool (p x))
theorem Asks.mono {α : Type} {g0 : Nat} {first cap : List AV} {n : Option Nat} {R : Heap → List AV → α → Prop} {h h1 : Heap} {l : List α} {p : α → Bool} (H : Asks g0 first cap n R h l p) (hx : Ext h h1) : Asks g0 first cap n R h1 l p :=
 fun x hm h' c v e => H x hm h' c v (hx.trans e)
def IXc (s : Nat) (n : Option Nat) (k : SK) : SC := (.seq (.reg [] [⟨some 4, none, .mv (.c (.int .i64 0))⟩])
 (.seq (.seq (.reg [] [⟨some 6, none, .mv (.r 0)⟩, ⟨some 7, none, .len (.r 6) none⟩, ⟨some 8, none, .mv (.c (.int .i64 0))⟩])
 (.block 0 (.loop (.seq (.reg [] [⟨some 9, none, .bin .lss (.r 8) (.r 7)⟩])
  (.seq (.cond (.r 9) .skip (.exit 0))
  (.seq (.block 1 (.seq (.reg [] [⟨some 10, none, .mv (.r 8)⟩, ⟨some 5, none, .mv (.r 10)⟩])
   (.seq (.reg [] [⟨some 11, none, .mv (.r 1)⟩, ⟨some 12, none, .mv (.r 0)⟩, ⟨some 13, none, .mv (.r 5)⟩, ⟨some 14, none, .ia (.r 12) (.r 13) none s⟩, ⟨some 15, none, .ld (.r 14) n⟩, ⟨some 16, none, k⟩])
   (.cond (.r 16) (.seq (.reg [] [⟨some 17, none, .mv (.r 5)⟩, ⟨some 4, none, .mv (.r 17)⟩]) .ret) .skip))))
  (.reg [] [⟨some 18, none, .bin .add (.r 8) (.c (.int .i64 1))⟩, ⟨some 8, none, .mv (.r 18)⟩])))))))
 (.seq (.reg [] [⟨some 4, none, .mv (.c (.int .i64 (-1)))⟩]) .ret)))
def CTc (ix : Nat) : SC := (.seq (.reg [] [⟨some 4, none, .mv (.c (.bool false))⟩])
 (.seq (.reg [] [⟨some 5, none, .mv (.r 0)⟩, ⟨some 6, none, .mv (.r 1)⟩, ⟨some 7, none, .call (.c (.fn ix [] [])) [.r 5, .r 6]⟩, ⟨some 8, none, .bin .geq (.r 7) (.c (.int .i64 0))⟩, ⟨some 4, none, .mv (.r 8)⟩]) .ret))
def ALc (ct g1 : Nat) : SC := (.seq (.reg [] [⟨some 3, none, .hbox false (.r 1)⟩, ⟨some 4, none, .mv (.c (.bool false))⟩])
 (.seq (.reg [] [⟨some 5, none, .mv (.r 0)⟩, ⟨some 6, none, .mkf g1 [] [.r 3]⟩, ⟨some 7, none, .call (.c (.fn ct [] [])) [.r 5, .r 6]⟩, ⟨some 8, none, .un .not (.r 7)⟩, ⟨some 4, none, .mv (.r 8)⟩]) .ret))
def NTc (n : Nat) : SC := (.seq (.reg [] [⟨some 2, none, .box (.r 0)⟩, ⟨some 3, none, .mv (.c (.bool false))⟩])
 (.seq (.reg [] [⟨some 4, none, .ld (.r 1) none⟩, ⟨some 5, none, .ld (.r 2) (some n)⟩, ⟨some 6, none, .call (.r 4) [.r 5]⟩, ⟨some 7, none, .un .not (.r 6)⟩, ⟨some 3, none, .mv (.r 7)⟩]) .ret))
theorem ix_of {α : Type} {f s : Nat} {n : Option Nat} {R : Heap → List AV → α → Prop} {fn : Func} {h : Heap} {v : AV} {l : List α} {g0 : Nat} {first cap : List AV} {p : α → Bool}
  (hp0 : ann.pure f = false) (hf : Tryz.prog.funcs[f]? = some fn) (hb : fn.body.bind (slC Tryz.prog ann f) = some (IXc s n (.call (.r 11) [.r 15]))) (hn : (fn.name == "runtime.NumGoroutine" || decide (fn.ntmps < 2)) = false) (hnt : fn.ntmps = 19) (hres : fn.results.toList = [.tmp 4])
  (hR : ∀ h c x, R h c x → c.length = s → ∃ w, LdV n c w) (hm : Mono R) (ha : Asks g0 first cap n R h l p) (h1 : Sl R s h v l) (l1 : l.length ≤ 9223372036854775807) : Looks Tryz.prog ann f [v, .fn g0 first cap] h (.int .i64 (fi p l)) := by
 refine s_look_of (by rw [hp0]; rfl) hf hb hn ?_
 rw [hnt, hres]
 unfold IXc
 refine tV ?_
 apply o_lenS rfl rfl h1
 refine tV ?_
 refine s_loop (fun k : Nat => [(0, v), (1, .fn g0 first cap), (7, .int .i64 (l.length : Int)), (8, .int .i64 (k : Int))]) (fun k h' => Ext h h' ∧ k ≤ l.length ∧ ∀ i, (hi : i < k) → (hl : i < l.length) → p l[i] = false) (fun k => l.length - k) 0
  tU ⟨.refl, Nat.zero_le _, fun i hi => by omega⟩ ?_
 rintro k h' ⟨hx, hk, ht⟩
 refine tW ?_
 refine oB fun b2 hb2 => ?_
 cases b2
 case false =>
  have hkl : k = l.length := by simp at hb2; omega
  refine tW ?_
  refine lret_ret (vs := [.int .i64 (-1)]) rfl rfl ?_ hx (by simp)
  rw [fi_none fun i hi => ht i (by omega) hi]
  rfl
 have hkl : k < l.length := by simpa using hb2
 refine tV ?_
 apply o_iaS rfl rfl rfl (h1.mono hm hx) hkl
 intro p1 c1 hp1 hc1 hcl1
 obtain ⟨w1, hw1⟩ := hR _ _ _ hc1 hcl1
 apply o_ldG rfl rfl hp1 hw1 (fun _ => .refl)
 apply o_hcall rfl rfl rfl rfl (ha _ (List.getElem_mem hkl) _ _ _ hx hc1 hw1).go
 rintro _ k1 ⟨rfl, hy⟩
 replace hx := hx.trans hy
 clear hy hp1 hc1
 cases hpk : p l[k] with
 | true =>
  refine tW ?_
  refine lret_ret (vs := [.int .i64 k]) rfl rfl ?_ hx (by simp)
  rw [fi_at hkl hpk fun i hi => ht i hi (by omega)]
  rfl
 | false =>
  refine tW ?_
  rw [w64 (n := (k : Int) + 1) (by omega) (by omega)]
  refine ⟨k + 1, by simp only; omega, tU, rfl, hx, by omega, fun i hi hl => ?_⟩
  by_cases e : i = k
  ·subst e
   exact hpk
  ·exact ht i (by omega) hl
theorem ct_of {α : Type} {f ix : Nat} {fn : Func} {h : Heap} {v w : AV} {l : List α} {p : α → Bool}
  (hp0 : ann.pure f = false) (hf : Tryz.prog.funcs[f]? = some fn) (hb : fn.body.bind (slC Tryz.prog ann f) = some (CTc ix)) (hn : (fn.name == "runtime.NumGoroutine" || decide (fn.ntmps < 2)) = false) (hnt : fn.ntmps = 9) (hres : fn.results.toList = [.tmp 4])
  (hi : Looks Tryz.prog ann ix [v, w] h (.int .i64 (fi p l))) : Looks Tryz.prog ann f [v, w] h (.bool (l.any p)) := by
 refine s_look_of (by rw [hp0]; rfl) hf hb hn ?_
 rw [hnt, hres]
 unfold CTc
 refine tV ?_
 apply o_hcall rfl rfl rfl rfl hi.go
 rintro _ k1 ⟨rfl, hy⟩
 refine oB fun b hb => ?_
 refine tW ?_
 refine lret_ret (vs := [.bool b]) rfl rfl ?_ hy (by simp)
 rw [hb, ← fi_any]
 rfl
theorem al_of {α : Type} {f ct g0 g1 : Nat} {first cap : List AV} {fn : Func} {h : Heap} {v : AV} {l : List α} {p : α → Bool}
  (hp0 : ann.pure f = false) (hf : Tryz.prog.funcs[f]? = some fn) (hb : fn.body.bind (slC Tryz.prog ann f) = some (ALc ct g1)) (hn : (fn.name == "runtime.NumGoroutine" || decide (fn.ntmps < 2)) = false) (hnt : fn.ntmps = 9) (hres : fn.results.toList = [.tmp 4])
  (hc : ∀ b h', Ext h h' → h' b = some (.cells [.fn g0 first cap]) → Looks Tryz.prog ann ct [v, .fn g1 [] [.ptr b 0]] h' (.bool (l.any fun x => !p x))) : Looks Tryz.prog ann f [v, .fn g0 first cap] h (.bool (l.all p)) := by
 refine s_look_of (by rw [hp0]; rfl) hf hb hn ?_
 rw [hnt, hres]
 unfold ALc
 refine tV ?_
 apply o_hbox rfl rfl rfl
 intro b hbn
 refine tV ?_
 apply o_hcall rfl rfl rfl rfl (hc b _ (.upd hbn) upd_same).go
 rintro _ k1 ⟨rfl, hy⟩
 have e : l.all p = !(l.any fun x => !p x) := by simp [List.all_eq_not_any_not]
 cases hb : (l.any fun x => !p x) <;> rw [hb] at e <;> rw [e]
 ·refine tW ?_
  exact lret_ret (vs := [.bool true]) rfl rfl rfl (.trans (.upd hbn) hy) (by simpa using hbn)
 ·refine tW ?_
  exact lret_ret (vs := [.bool false]) rfl rfl rfl (.trans (.upd hbn) hy) (by simpa using hbn)
theorem nt_of {f n g0 b : Nat} {first cap c : List AV} {fn : Func} {h : Heap} {y : Bool}
  (hp0 : ann.pure f = false) (hf : Tryz.prog.funcs[f]? = some fn) (hb : fn.body.bind (slC Tryz.prog ann f) = some (NTc n)) (hn : (fn.name == "runtime.NumGoroutine" || decide (fn.ntmps < 2)) = false) (hnt : fn.ntmps = 8) (hres : fn.results.toList = [.tmp 3])
  (hbx : h b = some (.cells [.fn g0 first cap])) (hcl : c.length = n) (hone : c.all AV.one = true)
  (hg : Looks Tryz.prog ann g0 (first ++ [.agg c] ++ cap) h (.bool y)) : Looks Tryz.prog ann f [.agg c, .ptr b 0] h (.bool (!y)) := by
 refine s_look_of (by rw [hp0]; rfl) hf hb hn ?_
 rw [hnt, hres]
 unfold NTc
 refine tS ?_
 apply o_val rfl rfl hone
 refine tV ?_
 apply o_ldh rfl rfl hbx (fun h => by omega) rfl
 apply o_loadn rfl rfl (sliceL_all hcl)
 apply o_hcall rfl rfl rfl rfl hg.go
 rintro _ k1 ⟨rfl, hy⟩
 cases y
 ·refine tW ?_
  exact lret_ret (vs := [.bool true]) rfl rfl rfl hy (by simp)
 ·refine tW ?_
  exact lret_ret (vs := [.bool false]) rfl rfl rfl hy (by simp)
theorem hR_int {h : Heap} {c : List AV} {x : Int} (H : RN .i64 h c x) (_ : c.length = 1) : ∃ w, LdV none c w := ⟨_, .one H⟩
theorem hR_pair {h : Heap} {c : List AV} {x : Int × Int} (_ : RPair h c x) (hl : c.length = 2) : ∃ w, LdV (some 2) c w := ⟨_, .many rfl hl⟩
theorem hR_four {h : Heap} {c : List AV} {x : Four} (_ : RFour h c x) (hl : c.length = 4) : ∃ w, LdV (some 4) c w := ⟨_, .many rfl hl⟩
theorem hR_mth {h : Heap} {c : List AV} {x : Mth} (_ : RMth h c x) (hl : c.length = 6) : ∃ w, LdV (some 6) c w := ⟨_, .many rfl hl⟩
theorem p161 {g0 b : Nat} {first cap : List AV} {h : Heap} {v : AV} {y : Bool} (hbx : h b = some (.cells [.fn g0 first cap])) (_hone : v.one = true) (hg : Looks Tryz.prog ann g0 (first ++ [v] ++ cap) h (.bool y)) : Looks Tryz.prog ann 161 [v, .ptr b 0] h (.bool (!y)) := by
 refine s_look_of rfl Tryz.func161 (frc (by with_unfolding_all rfl)) rfl ?_
 refine tV ?_
 apply o_ldh rfl rfl hbx (fun h => by omega) rfl
 apply o_val rfl rfl trivial
 apply o_hcall rfl rfl rfl rfl hg.go
 rintro _ k1 ⟨rfl, hy⟩
 cases y
 ·refine tW ?_
  exact lret_ret (vs := [.bool true]) rfl rfl rfl hy (by simp)
 ·refine tW ?_
  exact lret_ret (vs := [.bool false]) rfl rfl rfl hy (by simp)
theorem pall_int {g0 : Nat} {first cap : List AV} {h : Heap} {v : AV} {l : List Int} {p : Int → Bool} (h1 : Sl (RN .i64) 1 h v l) (l1 : Len l) (ha : Asks g0 first cap none (RN .i64) h l p) : Looks Tryz.prog ann 118 [v, .fn g0 first cap] h (.bool (l.all p)) :=
 al_of rfl Tryz.func118 (frc (by with_unfolding_all rfl)) rfl rfl rfl fun b h' hx hb =>
  ct_of rfl Tryz.func160 (frc (by with_unfolding_all rfl)) rfl rfl rfl
   (ix_of rfl Tryz.func187 (frc (by with_unfolding_all rfl)) rfl rfl rfl (fun _ _ _ => hR_int) RN.mono (fun x hm h2 c v hx2 hc hv => p161 (hx2 b _ hb) (by cases hc; cases hv; rename_i e; cases e; rfl) (ha x hm h2 c v (hx.trans hx2) hc hv)) (h1.mono RN.mono hx) l1)
theorem pall_pair {g0 : Nat} {first cap : List AV} {h : Heap} {v : AV} {l : List (Int × Int)} {p : (Int × Int) → Bool} (h1 : Sl RPair 2 h v l) (l1 : Len l) (ha : Asks g0 first cap (some 2) RPair h l p) : Looks Tryz.prog ann 121 [v, .fn g0 first cap] h (.bool (l.all p)) :=
 al_of rfl Tryz.func121 (frc (by with_unfolding_all rfl)) rfl rfl rfl fun b h' hx hb =>
  ct_of rfl Tryz.func162 (frc (by with_unfolding_all rfl)) rfl rfl rfl
   (ix_of rfl Tryz.func188 (frc (by with_unfolding_all rfl)) rfl rfl rfl (fun _ _ _ => hR_pair) RPair.mono (fun x hm h2 c v hx2 hc hv => by
    cases hv
    rename_i hm2 e
    subst e
    exact nt_of rfl Tryz.func163 (frc (by with_unfolding_all rfl)) rfl rfl rfl (hx2 b _ hb) hm2 (RPair.one hc) (ha x hm h2 c (.agg c) (hx.trans hx2) hc (.many rfl hm2))) (h1.mono RPair.mono hx) l1)
theorem pall_trap {g0 : Nat} {first cap : List AV} {h : Heap} {v : AV} {l : List Four} {p : Four → Bool} (h1 : Sl RFour 4 h v l) (l1 : Len l) (ha : Asks g0 first cap (some 4) RFour h l p) : Looks Tryz.prog ann 127 [v, .fn g0 first cap] h (.bool (l.all p)) :=
 al_of rfl Tryz.func127 (frc (by with_unfolding_all rfl)) rfl rfl rfl fun b h' hx hb =>
  ct_of rfl Tryz.func165 (frc (by with_unfolding_all rfl)) rfl rfl rfl
   (ix_of rfl Tryz.func189 (frc (by with_unfolding_all rfl)) rfl rfl rfl (fun _ _ _ => hR_four) RFour.mono (fun x hm h2 c v hx2 hc hv => by
    cases hv
    rename_i hm2 e
    subst e
    exact nt_of rfl Tryz.func166 (frc (by with_unfolding_all rfl)) rfl rfl rfl (hx2 b _ hb) hm2 (RFour.one hc) (ha x hm h2 c (.agg c) (hx.trans hx2) hc (.many rfl hm2))) (h1.mono RFour.mono hx) l1)
theorem pall_ins {g0 : Nat} {first cap : List AV} {h : Heap} {v : AV} {l : List Four} {p : Four → Bool} (h1 : Sl RFour 4 h v l) (l1 : Len l) (ha : Asks g0 first cap (some 4) RFour h l p) : Looks Tryz.prog ann 129 [v, .fn g0 first cap] h (.bool (l.all p)) :=
 al_of rfl Tryz.func129 (frc (by with_unfolding_all rfl)) rfl rfl rfl fun b h' hx hb =>
  ct_of rfl Tryz.func167 (frc (by with_unfolding_all rfl)) rfl rfl rfl
   (ix_of rfl Tryz.func190 (frc (by with_unfolding_all rfl)) rfl rfl rfl (fun _ _ _ => hR_four) RFour.mono (fun x hm h2 c v hx2 hc hv => by
    cases hv
    rename_i hm2 e
    subst e
    exact nt_of rfl Tryz.func168 (frc (by with_unfolding_all rfl)) rfl rfl rfl (hx2 b _ hb) hm2 (RFour.one hc) (ha x hm h2 c (.agg c) (hx.trans hx2) hc (.many rfl hm2))) (h1.mono RFour.mono hx) l1)
theorem pall_mth {g0 : Nat} {first cap : List AV} {h : Heap} {v : AV} {l : List Mth} {p : Mth → Bool} (h1 : Sl RMth 6 h v l) (l1 : Len l) (ha : Asks g0 first cap (some 6) RMth h l p) : Looks Tryz.prog ann 81 [v, .fn g0 first cap] h (.bool (l.all p)) :=
 al_of rfl Tryz.func81 (frc (by with_unfolding_all rfl)) rfl rfl rfl fun b h' hx hb =>
  ct_of rfl Tryz.func124 (frc (by with_unfolding_all rfl)) rfl rfl rfl
   (ix_of rfl Tryz.func164 (frc (by with_unfolding_all rfl)) rfl rfl rfl (fun _ _ _ => hR_mth) RMth.mono (fun x hm h2 c v hx2 hc hv => by
    cases hv
    rename_i hm2 e
    subst e
    exact nt_of rfl Tryz.func125 (frc (by with_unfolding_all rfl)) rfl rfl rfl (hx2 b _ hb) hm2 (RMth.one hc) (ha x hm h2 c (.agg c) (hx.trans hx2) hc (.many rfl hm2))) (h1.mono RMth.mono hx) l1)
end Go.Proofs
end
section
open Go Go.Abs Go.Proofs.SlimCode Go.Img
set_option maxRecDepth 100000
namespace Go.Proofs
def eqTo (n x : Int) : Bool := decide (n = x)
theorem ixn_of {f : Nat} {x : Int} {fn : Func} {h : Heap} {v : AV} {l : List Int} 
  (hp0 : ann.pure f = false) (hf : Tryz.prog.funcs[f]? = some fn) (hb : fn.body.bind (slC Tryz.prog ann f) = some (IXc 1 none (.bin .eql (.r 11) (.r 15)))) (hn : (fn.name == "runtime.NumGoroutine" || decide (fn.ntmps < 2)) = false) (hnt : fn.ntmps = 19) (hres : fn.results.toList = [.tmp 4])
  (h1 : Sl (RN .i64) 1 h v l) (l1 : l.length ≤ 9223372036854775807) : Looks Tryz.prog ann f [v, I x] h (.int .i64 (fi (eqTo x) l)) := by
 refine s_look_of (by rw [hp0]; rfl) hf hb hn ?_
 rw [hnt, hres]
 unfold IXc
 refine tV ?_
 apply o_lenS rfl rfl h1
 refine tV ?_
 refine s_loop (fun k : Nat => [(0, v), (1, I x), (7, .int .i64 (l.length : Int)), (8, .int .i64 (k : Int))]) (fun k h' => Ext h h' ∧ k ≤ l.length ∧ ∀ i, (hi : i < k) → (hl : i < l.length) → (eqTo x) l[i] = false) (fun k => l.length - k) 0
  tU ⟨.refl, Nat.zero_le _, fun i hi => by omega⟩ ?_
 rintro k h' ⟨hx, hk, ht⟩
 refine tW ?_
 refine oB fun b2 hb2 => ?_
 cases b2
 case false =>
  have hkl : k = l.length := by simp at hb2; omega
  refine tW ?_
  refine lret_ret (vs := [.int .i64 (-1)]) rfl rfl ?_ hx (by simp)
  rw [fi_none fun i hi => ht i (by omega) hi]
  rfl
 have hkl : k < l.length := by simpa using hb2
 refine tV ?_
 apply o_iaS rfl rfl rfl (h1.mono RN.mono hx) hkl
 intro p1 c1 hp1 hc1 hcl1
 obtain ⟨w1, hw1⟩ := hR_int hc1 hcl1
 apply o_ldG rfl rfl hp1 hw1 (fun _ => .refl)
 obtain rfl : w1 = .int .i64 l[k] := by
  cases hw1 with
  | one e =>
   rw [show c1 = [.int .i64 l[k]] from hc1] at e
   cases e
   rfl
 apply o_val (v := .bool (eqTo x l[k])) rfl rfl trivial
 cases hpk : (eqTo x) l[k] with
 | true =>
  refine tW ?_
  refine lret_ret (vs := [.int .i64 k]) rfl rfl ?_ hx (by simp)
  rw [fi_at hkl hpk fun i hi => ht i hi (by omega)]
  rfl
 | false =>
  refine tW ?_
  rw [w64 (n := (k : Int) + 1) (by omega) (by omega)]
  refine ⟨k + 1, by simp only; omega, tU, rfl, hx, by omega, fun i hi hl => ?_⟩
  by_cases e : i = k
  ·subst e
   exact hpk
  ·exact ht i (by omega) hl
theorem any_eqTo (x : Int) (l : List Int) : l.any (eqTo x) = BP (x ∈ l) := by
 by_cases h : x ∈ l
 ·rw [BP_true h]
  exact List.any_eq_true.2 ⟨x, h, decide_eq_true rfl⟩
 ·rw [BP_false h]
  refine List.any_eq_false.2 fun y hy e => h ?_
  obtain rfl := of_decide_eq_true e
  exact hy
theorem p115 {h : Heap} {v : AV} {l : List Int} {x : Int} (h1 : Sl (RN .i64) 1 h v l) (l1 : Len l) : Looks Tryz.prog ann 115 [v, I x] h (.bool (BP (x ∈ l))) := by
 rw [← any_eqTo]
 exact ct_of rfl Tryz.func115 (frc (by with_unfolding_all rfl)) rfl rfl rfl (ixn_of rfl Tryz.func159 (frc (by with_unfolding_all rfl)) rfl rfl rfl h1 l1)
theorem p119 {h : Heap} {v : AV} {l : List Int} (h1 : Sl (RN .i64) 1 h v l) (l1 : Len l) : Looks Tryz.prog ann 119 [v] h (.bool (BP (Rises l))) := by
 unfold Len at l1
 refine s_look_of rfl Tryz.func119 (frc (by with_unfolding_all rfl)) rfl ?_
 refine tV ?_
 refine s_loop (fun k : Nat => [(0, v), (3, .int .i64 (k : Int))]) (fun k h' => h' = h ∧ 1 ≤ k ∧ ∀ i, i + 1 < k → i + 1 < l.length → l.getD i 0 < l.getD (i + 1) 0) (fun k => l.length - k) 1
  tU ⟨rfl, Nat.le_refl _, fun i hi => by omega⟩ ?_
 rintro k h' ⟨rfl, hk, ht⟩
 refine tV ?_
 apply o_lenS rfl rfl h1
 refine oB fun b1 hb1 => ?_
 by_cases hkl : k < l.length
 rotate_left
 ·obtain rfl : b1 = false := by rw [hb1]; simp; omega
  refine tW ?_
  exact yesB rfl (fun i hi => ht i (by omega) hi) .refl (by simp)
 obtain rfl : b1 = true := by rw [hb1]; simp; omega
 refine tV ?_
 apply o_as (w := I ((k - 1 : Nat) : Int)) rfl rfl trivial (by rw [w64 (by omega) (by omega)]; congr 1; omega)
 apply o_iaS rfl rfl rfl h1 (show k - 1 < _ by omega)
 intro p1 c1 hp1 hc1 _
 apply o_ldG rfl rfl hp1 (.one hc1) (fun _ => .refl)
 refine tV ?_
 apply o_iaS rfl rfl rfl h1 hkl
 intro p2 c2 hp2 hc2 _
 apply o_ldG rfl rfl hp2 (.one hc2) (fun _ => .refl)
 refine oB fun b2 hb2 => ?_
 by_cases hr : l[k - 1] < l[k]
 rotate_left
 ·obtain rfl : b2 = true := by rw [hb2]; simp; omega
  refine tW ?_
  refine noB rfl (fun hR => hr ?_) .refl (by simp)
  have := hR (k - 1) (by omega)
  rw [show k - 1 + 1 = k by omega] at this
  simpa [List.getD_eq_getElem?_getD, List.getElem?_eq_getElem hkl, List.getElem?_eq_getElem (show k - 1 < l.length by omega)] using this
 obtain rfl : b2 = false := by rw [hb2]; simp; omega
 refine tW ?_
 rw [w64 (n := (k : Int) + 1) (by omega) (by omega)]
 refine ⟨k + 1, by simp only; omega, tU, rfl, rfl, by omega, fun i hi hl => ?_⟩
 by_cases e : i + 1 = k
 ·subst e
  simpa [List.getD_eq_getElem?_getD, List.getElem?_eq_getElem hl, List.getElem?_eq_getElem (show i < l.length by omega)] using hr
 ·exact ht i (by omega) hl
theorem p126 {h : Heap} {o : Int} : Looks Tryz.prog ann 126 [I o] h (.bool (BP (EndsP o))) := by
 refine s_look_of rfl Tryz.func126 (frc (by with_unfolding_all rfl)) rfl ?_
 refine tV ?_
 refine oB fun b0 hb0 => ?_
 by_cases H0 : o = 20
 ·obtain rfl : b0 = true := by rw [hb0]; exact decide_eq_true H0
  refine tW ?_
  exact yesB rfl (by unfold EndsP; omega) .refl (by simp)
 obtain rfl : b0 = false := by rw [hb0]; exact decide_eq_false H0
 refine tV ?_
 refine oB fun b1 hb1 => ?_
 by_cases H1 : o = 46
 ·obtain rfl : b1 = true := by rw [hb1]; exact decide_eq_true H1
  refine tW ?_
  exact yesB rfl (by unfold EndsP; omega) .refl (by simp)
 obtain rfl : b1 = false := by rw [hb1]; exact decide_eq_false H1
 refine tV ?_
 refine oB fun b2 hb2 => ?_
 by_cases H2 : o = 47
 ·obtain rfl : b2 = true := by rw [hb2]; exact decide_eq_true H2
  refine tW ?_
  exact yesB rfl (by unfold EndsP; omega) .refl (by simp)
 obtain rfl : b2 = false := by rw [hb2]; exact decide_eq_false H2
 refine tV ?_
 refine oB fun b3 hb3 => ?_
 by_cases H3 : o = 48
 ·obtain rfl : b3 = true := by rw [hb3]; exact decide_eq_true H3
  refine tW ?_
  exact yesB rfl (by unfold EndsP; omega) .refl (by simp)
 obtain rfl : b3 = false := by rw [hb3]; exact decide_eq_false H3
 refine tV ?_
 refine oB fun b4 hb4 => ?_
 by_cases H4 : o = 58
 ·obtain rfl : b4 = true := by rw [hb4]; exact decide_eq_true H4
  refine tW ?_
  exact yesB rfl (by unfold EndsP; omega) .refl (by simp)
 obtain rfl : b4 = false := by rw [hb4]; exact decide_eq_false H4
 refine tV ?_
 refine oB fun b5 hb5 => ?_
 by_cases H5 : o = 61
 ·obtain rfl : b5 = true := by rw [hb5]; exact decide_eq_true H5
  refine tW ?_
  exact yesB rfl (by unfold EndsP; omega) .refl (by simp)
 obtain rfl : b5 = false := by rw [hb5]; exact decide_eq_false H5
 refine tW ?_
 exact noB rfl (by unfold EndsP; omega) .refl (by simp)
theorem p186 {h : Heap} {n a b : Int} : Looks Tryz.prog ann 186 [I n, I a, I b] h (.bool (BP (a ≤ n ∧ n ≤ b))) := by
 refine s_look_of rfl Tryz.func186 (frc (by with_unfolding_all rfl)) rfl ?_
 refine tV ?_
 refine oB fun b1 hb1 => ?_
 by_cases H : a ≤ n
 rotate_left
 ·obtain rfl : b1 = false := by rw [hb1]; simp; omega
  refine tW ?_
  exact noB rfl (fun h => H h.1) .refl (by simp)
 obtain rfl : b1 = true := by rw [hb1]; simp; omega
 refine tV ?_
 refine oB fun b2 hb2 => ?_
 refine tW ?_
 refine eqB rfl ?_ .refl (by simp)
 rw [hb2]
 by_cases H2 : n ≤ b
 ·rw [BP_true ⟨H, H2⟩]
  exact decide_eq_true H2
 ·rw [BP_false (fun h => H2 h.2)]
  exact decide_eq_false H2
theorem p156 {h : Heap} {o : Int} : Looks Tryz.prog ann 156 [I o] h (.bool (BP (20 ≤ o ∧ o ≤ 36))) := by
 refine s_look_of rfl Tryz.func156 (frc (by with_unfolding_all rfl)) rfl ?_
 refine tV ?_
 apply o_hcall rfl rfl rfl rfl p186.go
 rintro _ k1 ⟨rfl, hx⟩
 refine tW ?_
 exact eqB rfl rfl hx (by simp)
end Go.Proofs
end
section
open Go Go.Abs Go.Proofs.SlimCode Go.Img
namespace Go.Img
def GivenAt (m : Image) (i : Nat) : Prop := IsT m (m.given.getD i 0) ∧ m.given.getD i 0 ∉ m.given.take i ∧ (0 < i → (cAt m (m.given.getD i 0)).thrown = true)
def GivenP (m : Image) : Prop := m.given.length = 10 ∧ ∀ i, i < m.given.length → GivenAt m i
noncomputable def walkS (m : Image) : Nat → Int → Int
 | 0, n => n
 | f + 1, n => @ite _ (IsT m n) (Classical.propDecidable _) (walkS m f (cAt m n).super) n
theorem walkS_in {m : Image} {f : Nat} {n : Int} (h : IsT m n) : walkS m (f + 1) n = walkS m f (cAt m n).super := by rw [walkS, if_pos h]
theorem walkS_out {m : Image} {f : Nat} {n : Int} (h : ¬ IsT m n) : walkS m f n = n := by
 cases f with
 | zero => rfl
 | succ f => rw [walkS, if_neg h]
theorem walkS_climbs {m : Image} : ∀ (f : Nat) (n : Int), walkS m f n = -1 ↔ Climbs m f n
 | 0, n => Iff.rfl
 | f + 1, n => by
  unfold Climbs
  by_cases h : IsT m n
  ·rw [walkS_in h, walkS_climbs f]
   constructor
   ·exact fun e => .inr ⟨h, e⟩
   ·rintro (e | ⟨_, e⟩)
    ·unfold IsT at h; omega
    ·exact e
  ·rw [walkS_out h]
   constructor
   ·exact .inl
   ·rintro (e | ⟨e, _⟩)
    ·exact e
    ·exact absurd e h
def SupersP (m : Image) : Prop := ∀ i, (hi : i < m.classes.length) → Climbs m m.classes.length m.classes[i].super
end Go.Img
set_option maxRecDepth 100000
namespace Go.Proofs
theorem p76 {h : Heap} {c : List AV} {m : Image} (hc : RImg h c m) (hw : m.WF) : Looks Tryz.prog ann 76 [.agg c] h (.bool (BP (GivenP m))) := by
 have hR := hc
 have hone := hc.one
 obtain ⟨vc, vm, vg, vw, vr, vs, vf, rfl, v1, v2, v3, v4, v5, v6, v7⟩ := hc
 have hl : Len m.given := hw.given.1
 unfold Len at hl
 refine s_look_of rfl Tryz.func76 (frc (by with_unfolding_all rfl)) rfl ?_
 refine tS ?_
 apply o_val rfl rfl hone
 refine tV ?_
 apply o_lenS rfl rfl v3
 refine tV ?_
 refine s_loop (fun k : Nat => [(1, .tptr [vc, vm, I m.entry, I m.need, vg, vw, vr, vs, vf] 0), (7, vg), (8, .int .i64 (m.given.length : Int)), (9, .int .i64 (k : Int))]) (fun k h' => Ext h h' ∧ k ≤ m.given.length ∧ ∀ i, i < k → GivenAt m i) (fun k => m.given.length - k) 0
  tU ⟨.refl, Nat.zero_le _, fun i hi => by omega⟩ ?_
 rintro k h' ⟨hx, hk, ht⟩
 refine tW ?_
 refine oB fun b1 hb1 => ?_
 by_cases hkl : k < m.given.length
 rotate_left
 ·obtain rfl : b1 = false := by rw [hb1]; simp; omega
  refine tX ?_
  apply s_regX [] [.A, .A, .A, .A, .C, .C, .A, .A] (by simp) rfl
  apply x_v rfl rfl trivial
  apply x_v rfl rfl trivial
  apply x_v rfl rfl trivial
  apply x_lenA rfl rfl (v3.mono RN.mono hx)
  apply x_callC rfl rfl rfl p116
  rintro _ h1 ⟨hy, i, rfl⟩ hnew
  apply x_vC rfl rfl rfl trivial
  apply x_v rfl rfl trivial
  apply x_v rfl rfl trivial
  apply x_nil
  have hx2 : Ext h (plus h' h1) := hx.trans (plus_ext)
  by_cases h10 : m.given.length = 10
  ·rw [show decide ((m.given.length : Int) = (10 : Nat)) = true from decide_eq_true (by omega)]
   refine tW ?_
   exact yesB rfl ⟨h10, fun i hi => ht i (by omega)⟩ hx2 (by simp)
  ·rw [show decide ((m.given.length : Int) = (10 : Nat)) = false from decide_eq_false (by omega)]
   refine tW ?_
   exact noB rfl (fun h => h10 h.1) hx2 (by simp)
 obtain rfl : b1 = true := by rw [hb1]; simp; omega
 refine tV ?_
 apply o_iaS rfl rfl rfl (v3.mono RN.mono hx) hkl
 intro p1 c1 hp1 hc1 _
 apply o_ldG rfl rfl hp1 (.one hc1) (fun _ => .refl)
 refine tV ?_
 apply o_hcall rfl rfl rfl rfl (p79 (RImg.mono _ _ _ _ hx hR) hw).go
 rintro _ k1 ⟨rfl, hy⟩
 replace hx := hx.trans hy
 clear hy hp1 hc1
 have hgd : m.given.getD k 0 = m.given[k] := by rw [List.getD_eq_getElem?_getD, List.getElem?_eq_getElem hkl]; rfl
 by_cases H1 : IsT m m.given[k]
 rotate_left
 ·rw [BP_false H1]
  refine tW ?_
  exact noB rfl (fun h => H1 (hgd ▸ (h.2 k hkl).1)) hx (by simp)
 rw [BP_true H1]
 refine tW ?_
 apply o_sltS (a := 0) (b := k) rfl rfl (v3.mono RN.mono hx) rfl rfl (Nat.zero_le _) hk
 intro w hw2
 refine tV ?_
 apply o_hcall rfl rfl rfl rfl (p115 hw2 (by unfold Len; simp; omega)).go
 rintro _ k2 ⟨rfl, hy⟩
 replace hx := hx.trans hy
 clear hy hw2
 rw [List.drop_zero]
 by_cases H2 : m.given[k] ∈ m.given.take k
 ·rw [BP_true H2]
  refine tW ?_
  exact noB rfl (fun h => (h.2 k hkl).2.1 (hgd ▸ H2)) hx (by simp)
 rw [BP_false H2]
 refine tW ?_
 refine oB fun b3 hb3 => ?_
 by_cases hk0 : 0 < k
 rotate_left
 ·obtain rfl : b3 = false := by rw [hb3]; simp; omega
  refine tW ?_
  rw [w64 (n := (k : Int) + 1) (by omega) (by omega)]
  refine ⟨k + 1, by simp only; omega, tU, rfl, hx, by omega, fun i hi => ?_⟩
  by_cases e : i = k
  rotate_left
  ·exact ht i (by omega)
  subst e
  ·exact ⟨by rw [hgd]; exact H1, by rw [hgd]; exact H2, fun h => absurd h hk0⟩
 obtain rfl : b3 = true := by rw [hb3]; simp; omega
 obtain ⟨hn, em⟩ := cAt_at H1
 have hn0 : m.given[k] = ((m.given[k]).toNat : Int) := by have := H1.1; omega
 refine tV ?_
 apply o_iaS (z := (m.given[k]).toNat) rfl rfl (by rw [← hn0]; rfl) (v1.mono RCls.mono hx) hn
 intro p cs hp hcs hcl
 obtain ⟨_, _, _, _, rfl, _⟩ := hcs
 refine tV ?_
 apply o_faV [.bool m.classes[(m.given[k]).toNat].thrown] rfl rfl hp rfl
 intro p2 hp2
 refine tV ?_
 apply o_ldV rfl rfl hp2 (fun h => by omega)
 rw [← em]
 cases hth : (cAt m m.given[k]).thrown with
 | false =>
  refine tW ?_
  exact noB rfl (fun h => by have := (h.2 k hkl).2.2 hk0; rw [hgd, hth] at this; cases this) hx (by simp)
 | true =>
  refine tW ?_
  rw [w64 (n := (k : Int) + 1) (by omega) (by omega)]
  refine ⟨k + 1, by simp only; omega, tU, rfl, hx, by omega, fun i hi => ?_⟩
  by_cases e : i = k
  rotate_left
  ·exact ht i (by omega)
  subst e
  ·exact ⟨by rw [hgd]; exact H1, by rw [hgd]; exact H2, fun _ => by rw [hgd]; exact hth⟩
theorem p77 {h : Heap} {c : List AV} {m : Image} (hc : RImg h c m) (hw : m.WF) : Looks Tryz.prog ann 77 [.agg c] h (.bool (BP (SupersP m))) := by
 have hR := hc
 have hone := hc.one
 obtain ⟨vc, vm, vg, vw, vr, vs, vf, rfl, v1, v2, v3, v4, v5, v6, v7⟩ := hc
 have hl : Len m.classes := hw.classes.1
 unfold Len at hl
 refine s_look_of rfl Tryz.func77 (frc (by with_unfolding_all rfl)) rfl ?_
 refine tS ?_
 apply o_val rfl rfl hone
 refine tV ?_
 apply o_lenS rfl rfl v1
 refine tV ?_
 refine s_loopB (fun s : Nat × List Nat => [(1, .tptr [vc, vm, I m.entry, I m.need, vg, vw, vr, vs, vf] 0), (8, vc), (9, .int .i64 (m.classes.length : Int)), (10, .int .i64 (s.1 : Int))]) (fun s => s.2)
  (fun s h' => Ext h h' ∧ (∀ b ∈ s.2, h b = none) ∧ s.1 ≤ m.classes.length ∧ ∀ i, i < s.1 → (hi : i < m.classes.length) → Climbs m m.classes.length m.classes[i].super) (fun s => m.classes.length - s.1) (0, [])
  tU rfl ⟨.refl, by simp, Nat.zero_le _, fun i hi => by omega⟩ ?_
 rintro ⟨k, bx⟩ h' ⟨hx, hbx, hk, ht⟩
 simp only at hx hbx hk ht ⊢
 refine tW ?_
 refine oB fun b1 hb1 => ?_
 by_cases hkl : k < m.classes.length
 rotate_left
 ·obtain rfl : b1 = false := by rw [hb1]; simp; omega
  refine tW ?_
  exact yesB rfl (fun i hi => ht i (by omega) hi) hx hbx
 obtain rfl : b1 = true := by rw [hb1]; simp; omega
 refine tV ?_
 apply o_iaS rfl rfl rfl (v1.mono RCls.mono hx) hkl
 intro p cs hp hcs hcl
 have hone2 := hcs.one
 obtain ⟨w1, w2, w3, w4, rfl, _⟩ := hcs
 apply o_ldG rfl rfl hp (.many rfl hcl) (fun _ => .refl)
 apply o_alc rfl
 intro b hbn
 apply o_st (v := .agg _) rfl rfl rfl rfl hcl hone2 upd_same (splice_full (by rfl))
 rw [upd_upd]
 have hgb : h b = none := by
  cases hh : h b with
  | none => rfl
  | some o => rw [hx b o hh] at hbn; cases hbn
 have hx2 := hx.trans (.upd (h := h') (o := .cells [.str m.classes[k].name, I m.classes[k].super, I m.classes[k].init, w1, w2, w3, w4, I m.classes[k].array, I m.classes[k].elem, .bool m.classes[k].thrown]) hbn)
 refine tV ?_
 apply o_ldh rfl rfl upd_same (fun h => by omega) rfl
 refine tv ?_
 refine tv ?_
 refine tv ?_
 refine s_join (σ := Int) (fun n => [(1, .tptr [vc, vm, I m.entry, I m.need, vg, vw, vr, vs, vf] 0), (5, .int .i64 n), (8, vc), (9, .int .i64 (m.classes.length : Int)), (10, .int .i64 (k : Int))]) (fun n h' => Ext h h' ∧ n = walkS m m.classes.length m.classes[k].super) ?_ ?_
 ·refine tV ?_
  apply o_lenS rfl rfl (v1.mono RCls.mono hx2)
  refine tV ?_
  refine s_loop (fun s : Nat × Int => [(1, .tptr [vc, vm, I m.entry, I m.need, vg, vw, vr, vs, vf] 0), (5, .int .i64 s.2), (8, vc), (9, .int .i64 (m.classes.length : Int)), (10, .int .i64 (k : Int)), (19, .int .i64 (m.classes.length : Int)), (20, .int .i64 (s.1 : Int))])
   (fun s h' => Ext h h' ∧ s.1 ≤ m.classes.length ∧ walkS m (m.classes.length - s.1) s.2 = walkS m m.classes.length m.classes[k].super) (fun s => m.classes.length - s.1) (0, m.classes[k].super)
   tU ⟨hx2, Nat.zero_le _, rfl⟩ ?_
  rintro ⟨j, n⟩ h2 ⟨hx3, hj, hn⟩
  simp only at hx3 hj hn ⊢
  refine tW ?_
  refine oB fun b2 hb2 => ?_
  by_cases hjl : j < m.classes.length
  rotate_left
  ·obtain rfl : b2 = false := by rw [hb2]; simp; omega
   refine tW ?_
   refine ⟨n, tU, rfl, hx3, ?_⟩
   rw [← hn, show m.classes.length - j = 0 by omega]
   rfl
  obtain rfl : b2 = true := by rw [hb2]; simp; omega
  refine tV ?_
  apply o_hcall rfl rfl rfl rfl (p79 (RImg.mono _ _ _ _ hx3 hR) hw).go
  rintro _ k1 ⟨rfl, hy⟩
  replace hx3 := hx3.trans hy
  clear hy
  by_cases H1 : IsT m n
  rotate_left
  ·rw [BP_false H1]
   refine tW ?_
   refine ⟨n, tU, rfl, hx3, ?_⟩
   rw [← hn, walkS_out H1]
  rw [BP_true H1]
  obtain ⟨hn1, em⟩ := cAt_at H1
  have hn0 : n = (n.toNat : Int) := by have := H1.1; omega
  refine tW ?_
  apply o_iaS (z := n.toNat) rfl rfl (by rw [← hn0]; rfl) (v1.mono RCls.mono hx3) hn1
  intro q cs2 hq hcs2 _
  obtain ⟨_, _, _, _, rfl, _⟩ := hcs2
  refine tV ?_
  apply o_faV [I m.classes[n.toNat].super] rfl rfl hq rfl
  intro q2 hq2
  refine tV ?_
  apply o_ldV rfl rfl hq2 (fun h => by omega)
  refine tW ?_
  rw [w64 (n := (j : Int) + 1) (by omega) (by omega)]
  refine ⟨(j + 1, m.classes[n.toNat].super), by simp only; omega, tU, rfl, hx3, by simp only; omega, ?_⟩
  simp only
  rw [← hn, ← em, show m.classes.length - j = (m.classes.length - (j + 1)) + 1 by omega, walkS_in H1]
 rintro n h2 ⟨hx3, hn⟩
 have hbx2 : ∀ i ∈ b :: bx, h i = none := by
  intro i hi
  rcases List.mem_cons.1 hi with rfl | hi
  ·exact hgb
  ·exact hbx i hi
 refine tV ?_
 refine oB fun b3 hb3 => ?_
 by_cases hn1 : n = -1
 rotate_left
 ·obtain rfl : b3 = true := by rw [hb3]; simpa using hn1
  refine tW ?_
  exact noB rfl (fun h => hn1 (by rw [hn, walkS_climbs]; exact h k hkl)) hx3 hbx2
 obtain rfl : b3 = false := by rw [hb3]; simpa using hn1
 refine tW ?_
 rw [w64 (n := (k : Int) + 1) (by omega) (by omega)]
 refine ⟨(k + 1, b :: bx), by simp only; omega, tU, rfl, hx3, hbx2, by simp only; omega, fun i hi hi2 => ?_⟩
 by_cases e : i = k
 ·subst e
  rw [← walkS_climbs, ← hn]
  exact hn1
 ·exact ht i (by simp only at hi; omega) hi2
end Go.Proofs
end
section
open Go Go.Abs Go.Proofs.SlimCode Go.Img
namespace Go.Img
def SubsP (m : Image) (i : Int) (x : Cls) : Prop := (∀ s ∈ x.subs, IsT m s) ∧ Rises x.subs ∧ i ∈ x.subs
def SlotsP (m : Image) (x : Cls) : Prop := x.slots.length ≤ 200 ∧ ∀ n ∈ x.slots, n = -1 ∨ HasC m n
def FacesP (m : Image) (x : Cls) : Prop := Rises (x.faces.map Prod.fst) ∧ ∀ p ∈ x.faces, IsM m p.1 ∧ HasC m p.2
def ElemP (m : Image) (x : Cls) : Prop := (x.array = 2 ∧ IsT m x.elem) ∨ (x.array ≠ 2 ∧ x.elem = -1)
def ArrP (m : Image) (x : Cls) : Prop := (0 ≤ x.array ∧ x.array ≤ 2) ∧ ElemP m x ∧ (x.array = 0 ∨ x.refs.length = 0)
def KindP (m : Image) (i : Int) (x : Cls) : Prop := (x.init = -1 ∨ Bare m x.init) ∧ x.refs.length ≤ 200 ∧ SubsP m i x ∧ SlotsP m x ∧ FacesP m x ∧ ArrP m x
end Go.Img
set_option maxRecDepth 100000
namespace Go.Proofs
theorem all_BP {α : Type} (P : α → Prop) (l : List α) : (l.all fun x => BP (P x)) = BP (∀ x ∈ l, P x) := by
 by_cases h : ∀ x ∈ l, P x
 ·rw [BP_true h]
  exact List.all_eq_true.2 fun x hx => BP_true (h x hx)
 ·rw [BP_false h]
  refine Bool.eq_false_iff.2 fun e => h fun x hx => ?_
  have := List.all_eq_true.1 e x hx
  by_cases hp : P x
  ·exact hp
  ·rw [BP_false hp] at this
   cases this
theorem asks_int {g0 : Nat} {first cap : List AV} {h : Heap} {l : List Int} {p : Int → Bool} (H : ∀ x ∈ l, ∀ h', Ext h h' → Looks Tryz.prog ann g0 (first ++ [I x] ++ cap) h' (.bool (p x))) : Asks g0 first cap none (RN .i64) h l p := by
 intro x hx h' c v e hc hv
 cases hv with
 | one e2 =>
  rw [show c = [.int .i64 x] from hc] at e2
  cases e2
  exact H x hx h' e
theorem asks_agg {α : Type} {g0 s : Nat} {first cap : List AV} {R : Heap → List AV → α → Prop} {h : Heap} {l : List α} {p : α → Bool} (H : ∀ x ∈ l, ∀ h' c, Ext h h' → R h' c x → c.length = s → Looks Tryz.prog ann g0 (first ++ [.agg c] ++ cap) h' (.bool (p x))) : Asks g0 first cap (some s) R h l p := by
 intro x hx h' c v e hc hv
 cases hv with
 | many e2 hm =>
  subst e2
  exact H x hx h' c e hc hm
theorem all_of_BP {α : Type} {f : Nat} {vs : List AV} {h : Heap} {P : α → Prop} {l : List α} (H : Looks Tryz.prog ann f vs h (.bool (l.all fun x => BP (P x)))) : Looks Tryz.prog ann f vs h (.bool (BP (∀ x ∈ l, P x))) := by
 rw [← all_BP]
 exact H
theorem p120 {h : Heap} {c : List AV} {m : Image} {b : Nat} {n : Int} (hb : h b = some (.cells c)) (hc : RImg h c m) (hw : m.WF) : Looks Tryz.prog ann 120 [I n, .ptr b 0] h (.bool (BP (n = -1 ∨ HasC m n))) := by
 have hR := hc
 have hcl : c.length = 9 := by obtain ⟨vc, vm, vg, vw, vr, vs, vf, rfl, _⟩ := hc; rfl
 have hx : Ext h h := .refl
 refine s_look_of rfl Tryz.func120 (frc (by with_unfolding_all rfl)) rfl ?_
 refine tV ?_
 refine oI (n = -1) (fun H1 => ?_) (fun H1 => ?_)
 ·refine tW ?_
  exact yesB rfl (.inl H1) hx (by simp)
 refine tV ?_
 apply o_ldhn rfl rfl hb (fun h => by omega) (sliceL_all hcl)
 refine tV ?_
 apply o_hcall rfl rfl rfl rfl (p117 hR hw).go
 rintro _ k1 ⟨rfl, hy⟩
 replace hx := hx.trans hy
 clear hy
 by_cases H2 : HasC m n
 rotate_left
 ·rw [BP_false H2]
  refine tW ?_
  exact noB rfl (fun h => h.elim H1 H2) hx (by simp)
 rw [BP_true H2]
 refine tW ?_
 exact yesB rfl (.inr H2) hx (by simp)
theorem p122 {h : Heap} {c d : List AV} {m : Image} {b : Nat} {p : Int × Int} (hd : RPair h d p) (hb : h b = some (.cells c)) (hc : RImg h c m) (hw : m.WF) : Looks Tryz.prog ann 122 [.agg d, .ptr b 0] h (.bool (BP (IsM m p.1 ∧ HasC m p.2))) := by
 have hR := hc
 have hcl : c.length = 9 := by obtain ⟨vc, vm, vg, vw, vr, vs, vf, rfl, _⟩ := hc; rfl
 obtain rfl : d = [I p.1, I p.2] := hd
 have hx : Ext h h := .refl
 refine s_look_of rfl Tryz.func122 (frc (by with_unfolding_all rfl)) rfl ?_
 refine tS ?_
 apply o_val rfl rfl (show List.all _ AV.one = true from rfl)
 refine tV ?_
 apply o_ldhn rfl rfl hb (fun h => by omega) (sliceL_all hcl)
 apply o_val rfl rfl ⟨Int.le_refl 0, by decide⟩
 refine tV ?_
 apply o_hcall rfl rfl rfl rfl (p123 hR hw).go
 rintro _ k1 ⟨rfl, hy⟩
 replace hx := hx.trans hy
 clear hy
 by_cases H1 : IsM m p.1
 rotate_left
 ·rw [BP_false H1]
  refine tW ?_
  exact noB rfl (fun h => H1 h.1) hx (by simp)
 rw [BP_true H1]
 refine tW ?_
 apply o_ldhn rfl rfl (hx _ _ hb) (fun h => by omega) (sliceL_all hcl)
 refine tV ?_
 apply o_val rfl rfl ⟨by decide, by decide⟩
 refine tV ?_
 apply o_hcall rfl rfl rfl rfl (p117 (RImg.mono _ _ _ _ hx hR) hw).go
 rintro _ k2 ⟨rfl, hy⟩
 replace hx := hx.trans hy
 clear hy
 by_cases H2 : HasC m p.2
 rotate_left
 ·rw [BP_false H2]
  refine tW ?_
  exact noB rfl (fun h => H2 h.2) hx (by simp)
 rw [BP_true H2]
 refine tW ?_
 exact yesB rfl ⟨H1, H2⟩ hx (by simp)
theorem p80 {h : Heap} {c d : List AV} {m : Image} {i : Int} {x : Cls} (hc : RImg h c m) (hw : m.WF) (hk : RCls h d x) (hwx : x.WF) (hfb : x.faces.length ≤ 1048577) : Looks Tryz.prog ann 80 [.agg c, I i, .agg d] h (.bool (BP (KindP m i x))) := by
 have hone := hc.one
 have hone2 := hk.one
 have hcl : c.length = 9 := by obtain ⟨vc, vm, vg, vw, vr, vs, vf, rfl, _⟩ := hc; rfl
 have lsu : Len x.subs := hwx.subs.1
 have lsl : Len x.slots := hwx.slots.1
 have lfa : Len x.faces := hwx.faces.1
 have lre : Len x.refs := hwx.refs
 obtain ⟨w1, w2, w3, w4, rfl, u1, u2, u3, u4⟩ := hk
 refine s_look_of rfl Tryz.func80 (frc (by with_unfolding_all rfl)) rfl ?_
 refine tS ?_
 apply o_hbox (v := .agg c) rfl rfl hone
 intro b hbn
 have hG0 : Ext h (upd h b (some (.cells c))) := .upd hbn
 have hGb : upd h b (some (.cells c)) b = some (.cells c) := upd_same
 apply o_val rfl rfl hone2
 show SOps _ _ _ _ _ _ _ _ [] (upd h b (some (.cells c))) _
 generalize upd h b (some (.cells c)) = G at hG0 hGb ⊢
 replace hc := RImg.mono _ _ _ _ hG0 hc
 replace u1 := u1.mono RB.mono hG0
 replace u2 := u2.mono RN.mono hG0
 replace u3 := u3.mono RN.mono hG0
 replace u4 := u4.mono RPair.mono hG0
 refine tv ?_
 refine tv ?_
 refine tv ?_
 refine s_join (σ := Unit) (fun _ => [(1, I i), (3, .ptr b 0), (5, .tptr [.str x.name, I x.super, I x.init, w1, w2, w3, w4, I x.array, I x.elem, .bool x.thrown] 0), (7, .bool (BP (SubsP m i x)))]) (fun _ h' => Ext G h') ?_ ?_
 ·have hx : Ext G G := .refl
  refine tV ?_
  apply o_ldhn rfl rfl (hx _ _ hGb) (fun h => by omega) (sliceL_all hcl)
  refine tV ?_
  apply o_hcall rfl rfl rfl rfl (all_of_BP (pall_int u2 lsu (asks_int fun y _ h2 e => p79 (RImg.mono _ _ _ _ e hc) hw))).go
  rintro _ k1 ⟨rfl, hy⟩
  replace hx := hx.trans hy
  clear hy
  by_cases H1 : ∀ s ∈ x.subs, IsT m s
  rotate_left
  ·rw [BP_false H1]
   rw [show BP (SubsP m i x) = false from BP_false (fun h => H1 h.1)]
   refine tW ?_
   refine ⟨(), tU, rfl, hx⟩
  rw [BP_true H1]
  refine tW ?_
  apply o_hcall rfl rfl rfl rfl (p119 (u2.mono RN.mono hx) lsu).go
  rintro _ k2 ⟨rfl, hy⟩
  replace hx := hx.trans hy
  clear hy
  by_cases H2 : Rises x.subs
  rotate_left
  ·rw [BP_false H2]
   rw [show BP (SubsP m i x) = false from BP_false (fun h => H2 h.2.1)]
   refine tW ?_
   refine ⟨(), tU, rfl, hx⟩
  rw [BP_true H2]
  refine tW ?_
  apply o_hcall rfl rfl rfl rfl (p115 (u2.mono RN.mono hx) lsu).go
  rintro _ k3 ⟨rfl, hy⟩
  replace hx := hx.trans hy
  clear hy
  by_cases H3 : i ∈ x.subs
  rotate_left
  ·rw [BP_false H3]
   rw [show BP (SubsP m i x) = false from BP_false (fun h => H3 h.2.2)]
   refine tW ?_
   refine ⟨(), tU, rfl, hx⟩
  rw [BP_true H3]
  rw [show BP (SubsP m i x) = true from BP_true ⟨H1, H2, H3⟩]
  refine tW ?_
  refine ⟨(), tU, rfl, hx⟩
 rintro _ k0 hx
 refine s_join (σ := Unit) (fun _ => [(1, I i), (3, .ptr b 0), (5, .tptr [.str x.name, I x.super, I x.init, w1, w2, w3, w4, I x.array, I x.elem, .bool x.thrown] 0), (7, .bool (BP (SubsP m i x))), (8, .bool (BP (SlotsP m x)))]) (fun _ h' => Ext G h') ?_ ?_
 ·have hx := hx
  refine tV ?_
  apply o_lenS rfl rfl (u3.mono RN.mono hx)
  refine tV ?_
  refine oI (x.slots.length ≤ 200) (fun H1 => ?_) (fun H1 => ?_)
  rotate_left
  ·rw [show BP (SlotsP m x) = false from BP_false (fun h => H1 h.1)]
   refine tW ?_
   refine ⟨(), tU, rfl, hx⟩
  refine tV ?_
  apply o_hcall rfl rfl rfl rfl (all_of_BP (P := fun n => n = -1 ∨ HasC m n) (pall_int (u3.mono RN.mono hx) lsl (asks_int fun y _ h2 e => p120 (e _ _ (hx _ _ hGb)) (RImg.mono _ _ _ _ (hx.trans e) hc) hw))).go
  rintro _ k1 ⟨rfl, hy⟩
  replace hx := hx.trans hy
  clear hy
  by_cases H2 : ∀ n ∈ x.slots, n = -1 ∨ HasC m n
  rotate_left
  ·rw [BP_false H2]
   rw [show BP (SlotsP m x) = false from BP_false (fun h => H2 h.2)]
   refine tW ?_
   refine ⟨(), tU, rfl, hx⟩
  rw [BP_true H2]
  rw [show BP (SlotsP m x) = true from BP_true ⟨H1, H2⟩]
  refine tW ?_
  refine ⟨(), tU, rfl, hx⟩
 rintro _ k0 hx
 refine tv ?_
 refine tv ?_
 refine tv ?_
 refine tv ?_
 refine tv ?_
 refine s_joinB (σ := List Nat × AV) (fun s => [(1, I i), (3, .ptr b 0), (5, .tptr [.str x.name, I x.super, I x.init, w1, w2, w3, w4, I x.array, I x.elem, .bool x.thrown] 0), (7, .bool (BP (SubsP m i x))), (8, .bool (BP (SlotsP m x))), (9, s.2)]) (fun s => s.1) (fun s h' => Ext G h' ∧ (∀ b ∈ s.1, h b = none) ∧ Sl (RN .i64) 1 h' s.2 (x.faces.map Prod.fst)) ?_ ?_
 ·refine tV ?_
  apply o_lenS rfl rfl (u4.mono RPair.mono hx)
  refine tV ?_
  refine s_loopB (fun s : Nat × List Nat × AV => [(1, I i), (3, .ptr b 0), (5, .tptr [.str x.name, I x.super, I x.init, w1, w2, w3, w4, I x.array, I x.elem, .bool x.thrown] 0), (7, .bool (BP (SubsP m i x))), (8, .bool (BP (SlotsP m x))), (9, s.2.2), (42, w4), (43, .int .i64 (x.faces.length : Int)), (44, .int .i64 (s.1 : Int))]) (fun s => s.2.1)
   (fun s h' => s.1 ≤ x.faces.length ∧ Acc (RN .i64) 1 G G h' s.2.1 s.2.2 ((x.faces.take s.1).map Prod.fst)) (fun s => x.faces.length - s.1) (0, [], .nil .sl)
   tU rfl ⟨Nat.zero_le _, Acc.start .refl hx (by simp)⟩ ?_
  rintro ⟨k, bx, v⟩ h1 ⟨hk, A1⟩
  simp only at hk A1 ⊢
  refine tW ?_
  refine oI (k < x.faces.length) (fun H1 => ?_) (fun H1 => ?_)
  rotate_left
  ·refine tW ?_
   have hkl : k = x.faces.length := by omega
   rw [hkl, List.take_length] at A1
   obtain ⟨G2, g1, g2, g3, g4⟩ := A1.fold RN.mono
   refine ⟨(bx, v), tU, rfl, A1.Gh, fun b hb => ?_, g3.mono RN.mono g2⟩
   cases e : h b with
   | none => rfl
   | some o =>
    have := A1.base0 hb
    rw [hG0 _ _ e] at this
    cases this
  refine tV ?_
  apply o_iaS rfl rfl rfl (u4.mono RPair.mono A1.Gh) H1
  intro p1 c1 hp1 hc1 hcl1
  obtain rfl : c1 = [I x.faces[k].1, I x.faces[k].2] := hc1
  apply o_ldG rfl rfl hp1 (.many rfl rfl) (fun _ => .refl)
  apply o_alc rfl
  intro b5 hb5
  apply o_st (v := .agg [I x.faces[k].1, I x.faces[k].2]) rfl rfl rfl rfl rfl rfl upd_same (splice_full (by rfl))
  rw [upd_upd]
  have A2 := A1.box (o := .cells [I x.faces[k].1, I x.faces[k].2]) hb5
  refine tV ?_
  apply o_iaP (cs := [I x.faces[k].1, I x.faces[k].2]) [I x.faces[k].1] rfl rfl rfl (VPtr.p b5 0 _ _ upd_same rfl) (by decide) (by decide) rfl
  intro p2 hp2
  apply o_ldV rfl rfl hp2 (fun h => by omega)
  apply o_val rfl rfl ⟨rfl, rfl⟩
  obtain ⟨cs, hcs, O⟩ := A2.osl
  apply o_appO (n := 1) rfl rfl rfl rfl O rfl rfl rfl (by simp only [List.length_map, List.length_take]; omega)
  intro v' h2 O2 _
  have A3 := A2.app hcs (show RN .i64 _ [I x.faces[k].1] x.faces[k].1 from rfl) rfl O2
  refine tW ?_
  rw [w64 (n := (k : Int) + 1) (by omega) (by omega)]
  refine ⟨(k + 1, b5 :: bx, v'), by simp only; omega, tU, rfl, by simp only; omega, ?_⟩
  simp only
  rw [List.take_add_one, List.getElem?_eq_getElem H1, List.map_append]
  exact A3
 rintro ⟨bx, v⟩ k1 ⟨hx, hbx, hv⟩
 simp only at hx hbx hv ⊢
 refine s_join (σ := Unit) (fun _ => [(1, I i), (3, .ptr b 0), (5, .tptr [.str x.name, I x.super, I x.init, w1, w2, w3, w4, I x.array, I x.elem, .bool x.thrown] 0), (7, .bool (BP (SubsP m i x))), (8, .bool (BP (SlotsP m x))), (12, .bool (BP (FacesP m x)))]) (fun _ h' => Ext G h') ?_ ?_
 ·have hx := hx
  refine tV ?_
  apply o_hcall rfl rfl rfl rfl (p119 hv (by unfold Len; rw [List.length_map]; exact lfa)).go
  rintro _ k1 ⟨rfl, hy⟩
  replace hx := hx.trans hy
  clear hy
  by_cases H1 : Rises (x.faces.map Prod.fst)
  rotate_left
  ·rw [BP_false H1]
   rw [show BP (FacesP m x) = false from BP_false (fun h => H1 h.1)]
   refine tW ?_
   refine ⟨(), tU, rfl, hx⟩
  rw [BP_true H1]
  refine tW ?_
  apply o_hcall rfl rfl rfl rfl (all_of_BP (P := fun p => IsM m p.1 ∧ HasC m p.2) (pall_pair (u4.mono RPair.mono hx) lfa (asks_agg fun y _ h2 c e hc2 _ => p122 hc2 (e _ _ (hx _ _ hGb)) (RImg.mono _ _ _ _ (hx.trans e) hc) hw))).go
  rintro _ k1 ⟨rfl, hy⟩
  replace hx := hx.trans hy
  clear hy
  by_cases H2 : ∀ p ∈ x.faces, IsM m p.1 ∧ HasC m p.2
  rotate_left
  ·rw [BP_false H2]
   rw [show BP (FacesP m x) = false from BP_false (fun h => H2 h.2)]
   refine tW ?_
   refine ⟨(), tU, rfl, hx⟩
  rw [BP_true H2]
  rw [show BP (FacesP m x) = true from BP_true ⟨H1, H2⟩]
  refine tW ?_
  refine ⟨(), tU, rfl, hx⟩
 rintro _ k2 hx
 refine tV ?_
 refine oB fun b1 hb1 => ?_
 refine tv ?_
 refine tv ?_
 refine tv ?_
 refine s_join (σ := Unit) (fun _ => [(1, I i), (3, .ptr b 0), (5, .tptr [.str x.name, I x.super, I x.init, w1, w2, w3, w4, I x.array, I x.elem, .bool x.thrown] 0), (7, .bool (BP (SubsP m i x))), (8, .bool (BP (SlotsP m x))), (12, .bool (BP (FacesP m x))), (13, .bool (BP (ElemP m x)))]) (fun _ h' => Ext G h') ?_ ?_
 ·have hx := hx
  refine tV ?_
  refine oI (x.array = 2) (fun H2 => ?_) (fun H2 => ?_)
  rotate_left
  ·refine tW ?_
   rw [show BP (ElemP m x) = b1 by
    rw [hb1, show BP (ElemP m x) = BP (x.elem = -1) from BP_congr (by unfold ElemP; omega)]
    by_cases h : x.elem = -1
    ·rw [BP_true h]
     exact (decide_eq_true h).symm
    ·rw [BP_false h]
     exact (decide_eq_false h).symm]
   refine ⟨(), tU, rfl, hx⟩
  refine tV ?_
  apply o_ldhn rfl rfl (hx _ _ hGb) (fun h => by omega) (sliceL_all hcl)
  refine tV ?_
  apply o_hcall rfl rfl rfl rfl (p79 (RImg.mono _ _ _ _ hx hc) hw).go
  rintro _ k1 ⟨rfl, hy⟩
  replace hx := hx.trans hy
  clear hy
  refine tW ?_
  rw [show BP (ElemP m x) = BP (IsT m x.elem) from BP_congr (by unfold ElemP; constructor; (rintro (h | h); exact h.2; exact absurd H2 h.1); exact fun h => .inl ⟨H2, h⟩)]
  refine ⟨(), tU, rfl, hx⟩
 rintro _ k3 hx
 clear hb1
 refine s_join (σ := Unit) (fun _ => [(1, I i), (3, .ptr b 0), (5, .tptr [.str x.name, I x.super, I x.init, w1, w2, w3, w4, I x.array, I x.elem, .bool x.thrown] 0), (7, .bool (BP (SubsP m i x))), (8, .bool (BP (SlotsP m x))), (12, .bool (BP (FacesP m x))), (13, .bool (BP (ElemP m x))), (14, .bool (BP (ArrP m x)))]) (fun _ h' => Ext G h') ?_ ?_
 ·have hx := hx
  refine tV ?_
  apply o_hcall rfl rfl rfl rfl (p75).go
  rintro _ k1 ⟨rfl, hy⟩
  replace hx := hx.trans hy
  clear hy
  by_cases H1 : 0 ≤ x.array ∧ x.array ≤ 2
  rotate_left
  ·rw [BP_false H1]
   rw [show BP (ArrP m x) = false from BP_false (fun h => H1 h.1)]
   refine tW ?_
   refine ⟨(), tU, rfl, hx⟩
  rw [BP_true H1]
  by_cases H2 : ElemP m x
  rotate_left
  ·rw [BP_false H2]
   rw [show BP (ArrP m x) = false from BP_false (fun h => H2 h.2.1)]
   refine tW ?_
   refine ⟨(), tU, rfl, hx⟩
  rw [BP_true H2]
  refine tW ?_
  refine oI (x.array = 0) (fun H3 => ?_) (fun H3 => ?_)
  ·rw [show BP (ArrP m x) = true from BP_true ⟨H1, H2, .inl H3⟩]
   refine tW ?_
   refine ⟨(), tU, rfl, hx⟩
  refine tV ?_
  apply o_lenS rfl rfl (u1.mono RB.mono hx)
  refine tV ?_
  refine oI (x.refs.length = 0) (fun H4 => ?_) (fun H4 => ?_)
  rotate_left
  ·rw [show BP (ArrP m x) = false from BP_false (fun h => h.2.2.elim H3 H4)]
   refine tW ?_
   refine ⟨(), tU, rfl, hx⟩
  rw [show BP (ArrP m x) = true from BP_true ⟨H1, H2, .inr H4⟩]
  refine tW ?_
  refine ⟨(), tU, rfl, hx⟩
 rintro _ k4 hx
 refine tV ?_
 refine oI (x.init = -1) (fun H1 => ?_) (fun H1 => ?_)
 ·refine tW ?_
  apply o_lenS rfl rfl (u1.mono RB.mono hx)
  refine tV ?_
  refine oI (x.refs.length ≤ 200) (fun H3 => ?_) (fun H3 => ?_)
  rotate_left
  ·refine tW ?_
   exact noB rfl (fun h => H3 h.2.1) (hG0.trans hx) hbx
  by_cases H4 : SubsP m i x
  rotate_left
  ·rw [BP_false H4]
   refine tW ?_
   exact noB rfl (fun h => H4 h.2.2.1) (hG0.trans hx) hbx
  rw [BP_true H4]
  by_cases H5 : SlotsP m x
  rotate_left
  ·rw [BP_false H5]
   refine tW ?_
   exact noB rfl (fun h => H5 h.2.2.2.1) (hG0.trans hx) hbx
  rw [BP_true H5]
  by_cases H6 : FacesP m x
  rotate_left
  ·rw [BP_false H6]
   refine tW ?_
   exact noB rfl (fun h => H6 h.2.2.2.2.1) (hG0.trans hx) hbx
  rw [BP_true H6]
  by_cases H7 : ArrP m x
  rotate_left
  ·rw [BP_false H7]
   refine tW ?_
   exact noB rfl (fun h => H7 h.2.2.2.2.2) (hG0.trans hx) hbx
  rw [BP_true H7]
  refine tW ?_
  exact yesB rfl ⟨.inl H1, H3, H4, H5, H6, H7⟩ (hG0.trans hx) hbx
 refine tV ?_
 apply o_ldhn rfl rfl (hx _ _ hGb) (fun h => by omega) (sliceL_all hcl)
 refine tV ?_
 apply o_hcall rfl rfl rfl rfl (p78 (RImg.mono _ _ _ _ hx hc) hw).go
 rintro _ k1 ⟨rfl, hy⟩
 replace hx := hx.trans hy
 clear hy
 by_cases H2 : Bare m x.init
 rotate_left
 ·rw [BP_false H2]
  refine tW ?_
  exact noB rfl (fun h => h.1.elim H1 H2) (hG0.trans hx) hbx
 rw [BP_true H2]
 refine tW ?_
 apply o_lenS rfl rfl (u1.mono RB.mono hx)
 refine tV ?_
 refine oI (x.refs.length ≤ 200) (fun H3 => ?_) (fun H3 => ?_)
 rotate_left
 ·refine tW ?_
  exact noB rfl (fun h => H3 h.2.1) (hG0.trans hx) hbx
 by_cases H4 : SubsP m i x
 rotate_left
 ·rw [BP_false H4]
  refine tW ?_
  exact noB rfl (fun h => H4 h.2.2.1) (hG0.trans hx) hbx
 rw [BP_true H4]
 by_cases H5 : SlotsP m x
 rotate_left
 ·rw [BP_false H5]
  refine tW ?_
  exact noB rfl (fun h => H5 h.2.2.2.1) (hG0.trans hx) hbx
 rw [BP_true H5]
 by_cases H6 : FacesP m x
 rotate_left
 ·rw [BP_false H6]
  refine tW ?_
  exact noB rfl (fun h => H6 h.2.2.2.2.1) (hG0.trans hx) hbx
 rw [BP_true H6]
 by_cases H7 : ArrP m x
 rotate_left
 ·rw [BP_false H7]
  refine tW ?_
  exact noB rfl (fun h => H7 h.2.2.2.2.2) (hG0.trans hx) hbx
 rw [BP_true H7]
 refine tW ?_
 exact yesB rfl ⟨.inr H2, H3, H4, H5, H6, H7⟩ (hG0.trans hx) hbx
end Go.Proofs
end
section
open Go Go.Abs Go.Proofs.SlimCode Go.Img
namespace Go.Img
def GuardP (m : Image) (i : Four) : Prop := i.2.2.2 = -1 ∨ IsT m i.2.2.2
structure InsP (m : Image) (locals : Int) (n : Nat) (i : Four) : Prop where
 op : 1 ≤ i.1 ∧ i.1 ≤ 61
 jump : 20 ≤ i.1 ∧ i.1 ≤ 36 → 0 ≤ i.2.1 ∧ i.2.1 ≤ (n : Int) - 1
 loc : i.1 = 3 ∨ i.1 = 4 → 0 ≤ i.2.1 ∧ i.2.1 ≤ locals - 1
 new : i.1 = 37 → IsArr m i.2.2.1 0 ∧ GuardP m i
 fld : i.1 = 38 ∨ i.1 = 39 → (0 ≤ i.2.2.1 ∧ i.2.2.1 ≤ 199) ∧ 0 ≤ i.2.2.2 ∧ i.2.2.2 ≤ 1
 stat : i.1 = 40 ∨ i.1 = 41 → (0 ≤ i.2.2.1 ∧ i.2.2.1 ≤ (m.stat.length : Int) - 1) ∧ GuardP m i
 calls : i.1 = 42 → HasC m i.2.2.1 ∧ GuardP m i
 callv : i.1 = 43 → (0 ≤ i.2.2.1 ∧ i.2.2.1 ≤ 199) ∧ 1 ≤ i.2.2.2 ∧ i.2.2.2 ≤ 7
 callx : i.1 = 44 → HasC m i.2.2.1 ∧ (1 ≤ i.2.2.2 ∧ i.2.2.2 ≤ 7) ∧ (mAt m i.2.2.1).args = i.2.2.2
 calli : i.1 = 45 → IsM m i.2.2.1 ∧ 1 ≤ i.2.2.2 ∧ i.2.2.2 ≤ 7
 newi : i.1 = 49 → IsArr m i.2.2.1 1
 newa : i.1 = 50 → IsArr m i.2.2.1 2
 cast : i.1 = 56 ∨ i.1 = 57 → IsT m i.2.2.1
end Go.Img
set_option maxRecDepth 100000
namespace Go.Proofs
theorem p131 {h : Heap} {c d e : List AV} {m : Image} {x : Mth} {i : Four} (hc : RImg h c m) (hw : m.WF) (hd : RMth h d x) (he : RFour h e i) (hlo : 0 ≤ x.locals ∧ x.locals ≤ 16) (hlc : Len x.code) : Looks Tryz.prog ann 131 [.agg c, .agg d, .agg e] h (.bool (BP (InsP m x.locals x.code.length i))) := by
 have hR := hc
 have hone := hc.one
 have hone2 := hd.one
 have lst : Len m.stat := hw.stat.1
 unfold Len at lst hlc
 obtain ⟨vc, vm, vg, vw, vr, vs, vf, rfl, v1, v2, v3, v4, v5, v6, v7⟩ := hc
 obtain ⟨vk, vt, rfl, u1, u2⟩ := hd
 obtain rfl : e = [I i.1, I i.2.1, I i.2.2.1, I i.2.2.2] := he
 have hx : Ext h h := .refl
 refine s_look_of rfl Tryz.func131 (frc (by with_unfolding_all rfl)) rfl ?_
 refine tS ?_
 apply o_val rfl rfl hone
 apply o_val rfl rfl hone2
 apply o_val rfl rfl (show List.all _ AV.one = true from rfl)
 refine tv ?_
 refine tv ?_
 refine tv ?_
 refine s_join (σ := Unit) (fun _ => [(3, .tptr [vc, vm, I m.entry, I m.need, vg, vw, vr, vs, vf] 0), (4, .tptr [I x.args, I x.locals, I x.stack, .bool x.gives, vk, vt] 0), (5, .tptr [I i.1, I i.2.1, I i.2.2.1, I i.2.2.2] 0), (7, .bool (BP (GuardP m i)))]) (fun _ h' => Ext h h') ?_ ?_
 ·have hx := hx
  refine tV ?_
  refine oI (i.2.2.2 = -1) (fun H1 => ?_) (fun H1 => ?_)
  ·rw [show BP (GuardP m i) = true from BP_true (.inl H1)]
   refine tW ?_
   refine ⟨(), tU, rfl, hx⟩
  refine tV ?_
  apply o_hcall rfl rfl rfl rfl (p79 hR hw).go
  rintro _ k1 ⟨rfl, hy⟩
  replace hx := hx.trans hy
  clear hy
  rw [show BP (GuardP m i) = BP (IsT m i.2.2.2) from BP_congr (by unfold GuardP; exact ⟨fun h => h.resolve_left H1, .inr⟩)]
  refine tW ?_
  refine ⟨(), tU, rfl, hx⟩
 clear hx
 rintro _ k0 hx
 have hR' := fun k (e : Ext h k) => RImg.mono _ _ _ _ e hR
 refine tV ?_
 apply o_hcall rfl rfl rfl rfl (p75).go
 rintro _ k1 ⟨rfl, hy⟩
 replace hx := hx.trans hy
 clear hy
 by_cases H2 : 1 ≤ i.1 ∧ i.1 ≤ 61
 rotate_left
 ·rw [BP_false H2]
  refine tW ?_
  exact noB rfl (fun h => H2 h.op) hx (by simp)
 rw [BP_true H2]
 refine tW ?_
 apply o_hcall rfl rfl rfl rfl (p156).go
 rintro _ k2 ⟨rfl, hy⟩
 replace hx := hx.trans hy
 clear hy
 by_cases H3 : 20 ≤ i.1 ∧ i.1 ≤ 36
 ·rw [BP_true H3]
  refine tW ?_
  apply o_lenS rfl rfl (u1.mono RFour.mono hx)
  apply o_as (w := I ((x.code.length : Int) - 1)) rfl rfl trivial (by rw [w64 (by omega) (by omega)])
  refine tV ?_
  apply o_hcall rfl rfl rfl rfl (p75).go
  rintro _ k3 ⟨rfl, hy⟩
  replace hx := hx.trans hy
  clear hy
  by_cases H4 : 0 ≤ i.2.1 ∧ i.2.1 ≤ (x.code.length : Int) - 1
  rotate_left
  ·rw [BP_false H4]
   refine tW ?_
   exact noB rfl (fun h => H4 (h.jump H3)) hx (by simp)
  rw [BP_true H4]
  refine tW ?_
  exact yesB rfl ⟨H2, fun _ => H4, fun h => by omega, fun h => by omega, fun h => by omega, fun h => by omega, fun h => by omega, fun h => by omega, fun h => by omega, fun h => by omega, fun h => by omega, fun h => by omega, fun h => by omega⟩ hx (by simp)
 rw [BP_false H3]
 refine tW ?_
 refine oI (i.1 = 3) (fun H10 => ?_) (fun H10 => ?_)
 ·refine tV ?_
  apply o_as (w := I (x.locals - 1)) rfl rfl trivial (by rw [w64 (by omega) (by omega)])
  refine tV ?_
  apply o_hcall rfl rfl rfl rfl (p75).go
  rintro _ k3 ⟨rfl, hy⟩
  replace hx := hx.trans hy
  clear hy
  by_cases H4 : 0 ≤ i.2.1 ∧ i.2.1 ≤ x.locals - 1
  rotate_left
  ·rw [BP_false H4]
   refine tW ?_
   exact noB rfl (fun h => H4 (h.loc (.inl H10))) hx (by simp)
  rw [BP_true H4]
  refine tW ?_
  exact yesB rfl ⟨H2, fun h => by omega, fun _ => H4, fun h => by omega, fun h => by omega, fun h => by omega, fun h => by omega, fun h => by omega, fun h => by omega, fun h => by omega, fun h => by omega, fun h => by omega, fun h => by omega⟩ hx (by simp)
 refine tW ?_
 refine oI (i.1 = 4) (fun H11 => ?_) (fun H11 => ?_)
 ·refine tV ?_
  apply o_as (w := I (x.locals - 1)) rfl rfl trivial (by rw [w64 (by omega) (by omega)])
  refine tV ?_
  apply o_hcall rfl rfl rfl rfl (p75).go
  rintro _ k3 ⟨rfl, hy⟩
  replace hx := hx.trans hy
  clear hy
  by_cases H4 : 0 ≤ i.2.1 ∧ i.2.1 ≤ x.locals - 1
  rotate_left
  ·rw [BP_false H4]
   refine tW ?_
   exact noB rfl (fun h => H4 (h.loc (.inr H11))) hx (by simp)
  rw [BP_true H4]
  refine tW ?_
  exact yesB rfl ⟨H2, fun h => by omega, fun _ => H4, fun h => by omega, fun h => by omega, fun h => by omega, fun h => by omega, fun h => by omega, fun h => by omega, fun h => by omega, fun h => by omega, fun h => by omega, fun h => by omega⟩ hx (by simp)
 refine tW ?_
 refine oI (i.1 = 37) (fun H12 => ?_) (fun H12 => ?_)
 ·refine tV ?_
  apply o_hcall rfl rfl rfl rfl (p169 (hR' _ hx) hw).go
  rintro _ k3 ⟨rfl, hy⟩
  replace hx := hx.trans hy
  clear hy
  by_cases H4 : IsArr m i.2.2.1 0
  rotate_left
  ·rw [BP_false H4]
   refine tW ?_
   exact noB rfl (fun h => (fun h => H4 h.1) (h.new H12)) hx (by simp)
  rw [BP_true H4]
  by_cases H5 : GuardP m i
  rotate_left
  ·rw [BP_false H5]
   refine tW ?_
   exact noB rfl (fun h => (fun h => H5 h.2) (h.new H12)) hx (by simp)
  rw [BP_true H5]
  refine tW ?_
  exact yesB rfl ⟨H2, fun h => by omega, fun h => by omega, fun _ => ⟨H4, H5⟩, fun h => by omega, fun h => by omega, fun h => by omega, fun h => by omega, fun h => by omega, fun h => by omega, fun h => by omega, fun h => by omega, fun h => by omega⟩ hx (by simp)
 refine tW ?_
 refine oI (i.1 = 38) (fun H13 => ?_) (fun H13 => ?_)
 ·refine tV ?_
  apply o_hcall rfl rfl rfl rfl (p75).go
  rintro _ k3 ⟨rfl, hy⟩
  replace hx := hx.trans hy
  clear hy
  by_cases H4 : 0 ≤ i.2.2.1 ∧ i.2.2.1 ≤ 199
  rotate_left
  ·rw [BP_false H4]
   refine tW ?_
   exact noB rfl (fun h => (fun h => H4 h.1) (h.fld (.inl H13))) hx (by simp)
  rw [BP_true H4]
  refine tW ?_
  apply o_hcall rfl rfl rfl rfl (p75).go
  rintro _ k4 ⟨rfl, hy⟩
  replace hx := hx.trans hy
  clear hy
  by_cases H5 : 0 ≤ i.2.2.2 ∧ i.2.2.2 ≤ 1
  rotate_left
  ·rw [BP_false H5]
   refine tW ?_
   exact noB rfl (fun h => (fun h => H5 h.2) (h.fld (.inl H13))) hx (by simp)
  rw [BP_true H5]
  refine tW ?_
  exact yesB rfl ⟨H2, fun h => by omega, fun h => by omega, fun h => by omega, fun _ => ⟨H4, H5⟩, fun h => by omega, fun h => by omega, fun h => by omega, fun h => by omega, fun h => by omega, fun h => by omega, fun h => by omega, fun h => by omega⟩ hx (by simp)
 refine tW ?_
 refine oI (i.1 = 39) (fun H14 => ?_) (fun H14 => ?_)
 ·refine tV ?_
  apply o_hcall rfl rfl rfl rfl (p75).go
  rintro _ k3 ⟨rfl, hy⟩
  replace hx := hx.trans hy
  clear hy
  by_cases H4 : 0 ≤ i.2.2.1 ∧ i.2.2.1 ≤ 199
  rotate_left
  ·rw [BP_false H4]
   refine tW ?_
   exact noB rfl (fun h => (fun h => H4 h.1) (h.fld (.inr H14))) hx (by simp)
  rw [BP_true H4]
  refine tW ?_
  apply o_hcall rfl rfl rfl rfl (p75).go
  rintro _ k4 ⟨rfl, hy⟩
  replace hx := hx.trans hy
  clear hy
  by_cases H5 : 0 ≤ i.2.2.2 ∧ i.2.2.2 ≤ 1
  rotate_left
  ·rw [BP_false H5]
   refine tW ?_
   exact noB rfl (fun h => (fun h => H5 h.2) (h.fld (.inr H14))) hx (by simp)
  rw [BP_true H5]
  refine tW ?_
  exact yesB rfl ⟨H2, fun h => by omega, fun h => by omega, fun h => by omega, fun _ => ⟨H4, H5⟩, fun h => by omega, fun h => by omega, fun h => by omega, fun h => by omega, fun h => by omega, fun h => by omega, fun h => by omega, fun h => by omega⟩ hx (by simp)
 refine tW ?_
 refine oI (i.1 = 40) (fun H15 => ?_) (fun H15 => ?_)
 ·refine tV ?_
  apply o_lenS rfl rfl (v6.mono RN.mono hx)
  apply o_as (w := I ((m.stat.length : Int) - 1)) rfl rfl trivial (by rw [w64 (by omega) (by omega)])
  refine tV ?_
  apply o_hcall rfl rfl rfl rfl (p75).go
  rintro _ k3 ⟨rfl, hy⟩
  replace hx := hx.trans hy
  clear hy
  by_cases H4 : 0 ≤ i.2.2.1 ∧ i.2.2.1 ≤ (m.stat.length : Int) - 1
  rotate_left
  ·rw [BP_false H4]
   refine tW ?_
   exact noB rfl (fun h => (fun h => H4 h.1) (h.stat (.inl H15))) hx (by simp)
  rw [BP_true H4]
  by_cases H5 : GuardP m i
  rotate_left
  ·rw [BP_false H5]
   refine tW ?_
   exact noB rfl (fun h => (fun h => H5 h.2) (h.stat (.inl H15))) hx (by simp)
  rw [BP_true H5]
  refine tW ?_
  exact yesB rfl ⟨H2, fun h => by omega, fun h => by omega, fun h => by omega, fun h => by omega, fun _ => ⟨H4, H5⟩, fun h => by omega, fun h => by omega, fun h => by omega, fun h => by omega, fun h => by omega, fun h => by omega, fun h => by omega⟩ hx (by simp)
 refine tW ?_
 refine oI (i.1 = 41) (fun H16 => ?_) (fun H16 => ?_)
 ·refine tV ?_
  apply o_lenS rfl rfl (v6.mono RN.mono hx)
  apply o_as (w := I ((m.stat.length : Int) - 1)) rfl rfl trivial (by rw [w64 (by omega) (by omega)])
  refine tV ?_
  apply o_hcall rfl rfl rfl rfl (p75).go
  rintro _ k3 ⟨rfl, hy⟩
  replace hx := hx.trans hy
  clear hy
  by_cases H4 : 0 ≤ i.2.2.1 ∧ i.2.2.1 ≤ (m.stat.length : Int) - 1
  rotate_left
  ·rw [BP_false H4]
   refine tW ?_
   exact noB rfl (fun h => (fun h => H4 h.1) (h.stat (.inr H16))) hx (by simp)
  rw [BP_true H4]
  by_cases H5 : GuardP m i
  rotate_left
  ·rw [BP_false H5]
   refine tW ?_
   exact noB rfl (fun h => (fun h => H5 h.2) (h.stat (.inr H16))) hx (by simp)
  rw [BP_true H5]
  refine tW ?_
  exact yesB rfl ⟨H2, fun h => by omega, fun h => by omega, fun h => by omega, fun h => by omega, fun _ => ⟨H4, H5⟩, fun h => by omega, fun h => by omega, fun h => by omega, fun h => by omega, fun h => by omega, fun h => by omega, fun h => by omega⟩ hx (by simp)
 refine tW ?_
 refine oI (i.1 = 42) (fun H17 => ?_) (fun H17 => ?_)
 ·refine tV ?_
  apply o_hcall rfl rfl rfl rfl (p117 (hR' _ hx) hw).go
  rintro _ k3 ⟨rfl, hy⟩
  replace hx := hx.trans hy
  clear hy
  by_cases H4 : HasC m i.2.2.1
  rotate_left
  ·rw [BP_false H4]
   refine tW ?_
   exact noB rfl (fun h => (fun h => H4 h.1) (h.calls H17)) hx (by simp)
  rw [BP_true H4]
  by_cases H5 : GuardP m i
  rotate_left
  ·rw [BP_false H5]
   refine tW ?_
   exact noB rfl (fun h => (fun h => H5 h.2) (h.calls H17)) hx (by simp)
  rw [BP_true H5]
  refine tW ?_
  exact yesB rfl ⟨H2, fun h => by omega, fun h => by omega, fun h => by omega, fun h => by omega, fun h => by omega, fun _ => ⟨H4, H5⟩, fun h => by omega, fun h => by omega, fun h => by omega, fun h => by omega, fun h => by omega, fun h => by omega⟩ hx (by simp)
 refine tW ?_
 refine oI (i.1 = 43) (fun H18 => ?_) (fun H18 => ?_)
 ·refine tV ?_
  apply o_hcall rfl rfl rfl rfl (p75).go
  rintro _ k3 ⟨rfl, hy⟩
  replace hx := hx.trans hy
  clear hy
  by_cases H4 : 0 ≤ i.2.2.1 ∧ i.2.2.1 ≤ 199
  rotate_left
  ·rw [BP_false H4]
   refine tW ?_
   exact noB rfl (fun h => (fun h => H4 h.1) (h.callv H18)) hx (by simp)
  rw [BP_true H4]
  refine tW ?_
  apply o_hcall rfl rfl rfl rfl (p75).go
  rintro _ k4 ⟨rfl, hy⟩
  replace hx := hx.trans hy
  clear hy
  by_cases H5 : 1 ≤ i.2.2.2 ∧ i.2.2.2 ≤ 7
  rotate_left
  ·rw [BP_false H5]
   refine tW ?_
   exact noB rfl (fun h => (fun h => H5 h.2) (h.callv H18)) hx (by simp)
  rw [BP_true H5]
  refine tW ?_
  exact yesB rfl ⟨H2, fun h => by omega, fun h => by omega, fun h => by omega, fun h => by omega, fun h => by omega, fun h => by omega, fun _ => ⟨H4, H5⟩, fun h => by omega, fun h => by omega, fun h => by omega, fun h => by omega, fun h => by omega⟩ hx (by simp)
 refine tW ?_
 refine oI (i.1 = 44) (fun H19 => ?_) (fun H19 => ?_)
 ·refine tv ?_
  refine tX ?_
  apply s_regX [] [.B, .A, .B, .A, .A, .A, .B, .A, .A, .A, .A, .A, .B, .A, .B, .A, .A, .A, .A, .B, .A, .A, .A] (by simp) rfl
  apply x_ldm (l := [vc, vm, I m.entry, I m.need, vg, vw, vr, vs, vf]) rfl rfl rfl rfl
  apply x_v rfl rfl trivial
  apply x_ld1 rfl rfl rfl
  apply x_lookA rfl rfl rfl (by rw [killL_nil]; exact (p117 (hR' _ hx) hw).go)
  intro k3 hy
  replace hx := hx.trans hy
  clear hy
  by_cases H4 : HasC m i.2.2.1
  rotate_left
  ·rw [BP_false H4]
   apply x_v rfl rfl trivial
   apply x_gF rfl rfl
   apply x_gF rfl rfl
   apply x_gF rfl rfl
   apply x_v rfl rfl trivial
   apply x_v rfl rfl trivial
   apply x_gF rfl rfl
   apply x_gF rfl rfl
   apply x_gF rfl rfl
   apply x_gF rfl rfl
   apply x_gF rfl rfl
   apply x_gF rfl rfl
   apply x_gF rfl rfl
   apply x_gF rfl rfl
   apply x_gF rfl rfl
   apply x_gF rfl rfl
   apply x_gF rfl rfl
   apply x_v rfl rfl trivial
   apply x_v rfl rfl trivial
   apply x_nil
   refine tW ?_
   exact noB rfl (fun h => (fun h => H4 h.1) (h.callx H19)) hx (by simp)
  rw [BP_true H4]
  apply x_v rfl rfl trivial
  apply x_gT rfl
  apply x_v rfl rfl trivial
  apply x_gT rfl
  apply x_ld1 rfl rfl rfl
  apply x_gT rfl
  apply x_lookA rfl rfl rfl (by exact p75 (n := i.2.2.2) (a := 1) (b := 7))
  intro k4 hy
  replace hx := hx.trans hy
  clear hy
  by_cases H5 : 1 ≤ i.2.2.2 ∧ i.2.2.2 ≤ 7
  rotate_left
  ·rw [BP_false H5]
   apply x_v rfl rfl trivial
   apply x_v rfl rfl trivial
   apply x_gF rfl rfl
   apply x_gF rfl rfl
   apply x_gF rfl rfl
   apply x_gF rfl rfl
   apply x_gF rfl rfl
   apply x_gF rfl rfl
   apply x_gF rfl rfl
   apply x_gF rfl rfl
   apply x_gF rfl rfl
   apply x_gF rfl rfl
   apply x_gF rfl rfl
   apply x_v rfl rfl trivial
   apply x_v rfl rfl trivial
   apply x_nil
   refine tW ?_
   exact noB rfl (fun h => (fun h => H5 h.2.1) (h.callx H19)) hx (by simp)
  rw [BP_true H5]
  obtain ⟨hn, em⟩ := mAt_at H4.1
  have hn0 : i.2.2.1 = (i.2.2.1.toNat : Int) := by have := H4.1.1; omega
  apply x_v rfl rfl trivial
  apply x_v rfl rfl trivial
  apply x_gT rfl
  apply x_v rfl rfl trivial
  apply x_gT rfl
  apply x_v rfl rfl trivial
  apply x_gT rfl
  apply x_ld1 rfl rfl rfl
  apply x_gT rfl
  apply x_v rfl rfl trivial
  apply x_gT rfl
  apply x_ld1 rfl rfl rfl
  apply x_gT rfl
  apply x_iaK (z := i.2.2.1.toNat) rfl rfl (by rw [← hn0]; rfl) (by rw [killL_nil]; exact v2.mono RMth.mono hx) hn
  intro p cs hp hcs hcl
  obtain ⟨_, _, rfl, _⟩ := hcs
  apply x_gT rfl
  apply x_faK [I m.methods[i.2.2.1.toNat].args] rfl rfl hp rfl
  intro p2 hp2
  apply x_gT rfl
  apply x_ldA rfl rfl hp2 (.one rfl)
  apply x_gT rfl
  apply x_v rfl rfl trivial
  apply x_gT rfl
  apply x_ld1 rfl rfl rfl
  apply x_gT rfl
  apply x_bool rfl rfl trivial
  intro b6 hb6
  apply x_v rfl rfl trivial
  apply x_v rfl rfl trivial
  apply x_nil
  by_cases H6 : (mAt m i.2.2.1).args = i.2.2.2
  rotate_left
  ·obtain rfl : b6 = false := by
    rw [hb6, ← em]
    exact decide_eq_false H6
   refine tW ?_
   exact noB rfl (fun h => (fun h => H6 h.2.2) (h.callx H19)) hx (by simp)
  obtain rfl : b6 = true := by
   rw [hb6, ← em]
   exact decide_eq_true H6
  refine tW ?_
  exact yesB rfl ⟨H2, fun h => by omega, fun h => by omega, fun h => by omega, fun h => by omega, fun h => by omega, fun h => by omega, fun h => by omega, fun _ => ⟨H4, H5, H6⟩, fun h => by omega, fun h => by omega, fun h => by omega, fun h => by omega⟩ hx (by simp)
 refine tW ?_
 refine oI (i.1 = 45) (fun H20 => ?_) (fun H20 => ?_)
 ·refine tV ?_
  apply o_hcall rfl rfl rfl rfl (p123 (hR' _ hx) hw).go
  rintro _ k3 ⟨rfl, hy⟩
  replace hx := hx.trans hy
  clear hy
  by_cases H4 : IsM m i.2.2.1
  rotate_left
  ·rw [BP_false H4]
   refine tW ?_
   exact noB rfl (fun h => (fun h => H4 h.1) (h.calli H20)) hx (by simp)
  rw [BP_true H4]
  refine tW ?_
  apply o_hcall rfl rfl rfl rfl (p75).go
  rintro _ k4 ⟨rfl, hy⟩
  replace hx := hx.trans hy
  clear hy
  by_cases H5 : 1 ≤ i.2.2.2 ∧ i.2.2.2 ≤ 7
  rotate_left
  ·rw [BP_false H5]
   refine tW ?_
   exact noB rfl (fun h => (fun h => H5 h.2) (h.calli H20)) hx (by simp)
  rw [BP_true H5]
  refine tW ?_
  exact yesB rfl ⟨H2, fun h => by omega, fun h => by omega, fun h => by omega, fun h => by omega, fun h => by omega, fun h => by omega, fun h => by omega, fun h => by omega, fun _ => ⟨H4, H5⟩, fun h => by omega, fun h => by omega, fun h => by omega⟩ hx (by simp)
 refine tW ?_
 refine oI (i.1 = 49) (fun H21 => ?_) (fun H21 => ?_)
 ·refine tV ?_
  apply o_hcall rfl rfl rfl rfl (p169 (hR' _ hx) hw).go
  rintro _ k3 ⟨rfl, hy⟩
  replace hx := hx.trans hy
  clear hy
  by_cases H4 : IsArr m i.2.2.1 1
  rotate_left
  ·rw [BP_false H4]
   refine tW ?_
   exact noB rfl (fun h => H4 (h.newi H21)) hx (by simp)
  rw [BP_true H4]
  refine tW ?_
  exact yesB rfl ⟨H2, fun h => by omega, fun h => by omega, fun h => by omega, fun h => by omega, fun h => by omega, fun h => by omega, fun h => by omega, fun h => by omega, fun h => by omega, fun _ => H4, fun h => by omega, fun h => by omega⟩ hx (by simp)
 refine tW ?_
 refine oI (i.1 = 50) (fun H22 => ?_) (fun H22 => ?_)
 ·refine tV ?_
  apply o_hcall rfl rfl rfl rfl (p169 (hR' _ hx) hw).go
  rintro _ k3 ⟨rfl, hy⟩
  replace hx := hx.trans hy
  clear hy
  by_cases H4 : IsArr m i.2.2.1 2
  rotate_left
  ·rw [BP_false H4]
   refine tW ?_
   exact noB rfl (fun h => H4 (h.newa H22)) hx (by simp)
  rw [BP_true H4]
  refine tW ?_
  exact yesB rfl ⟨H2, fun h => by omega, fun h => by omega, fun h => by omega, fun h => by omega, fun h => by omega, fun h => by omega, fun h => by omega, fun h => by omega, fun h => by omega, fun h => by omega, fun _ => H4, fun h => by omega⟩ hx (by simp)
 refine tW ?_
 refine oI (i.1 = 56) (fun H23 => ?_) (fun H23 => ?_)
 ·refine tV ?_
  apply o_hcall rfl rfl rfl rfl (p79 (hR' _ hx) hw).go
  rintro _ k3 ⟨rfl, hy⟩
  replace hx := hx.trans hy
  clear hy
  by_cases H4 : IsT m i.2.2.1
  rotate_left
  ·rw [BP_false H4]
   refine tW ?_
   exact noB rfl (fun h => H4 (h.cast (.inl H23))) hx (by simp)
  rw [BP_true H4]
  refine tW ?_
  exact yesB rfl ⟨H2, fun h => by omega, fun h => by omega, fun h => by omega, fun h => by omega, fun h => by omega, fun h => by omega, fun h => by omega, fun h => by omega, fun h => by omega, fun h => by omega, fun h => by omega, fun _ => H4⟩ hx (by simp)
 refine tW ?_
 refine oI (i.1 = 57) (fun H24 => ?_) (fun H24 => ?_)
 ·refine tV ?_
  apply o_hcall rfl rfl rfl rfl (p79 (hR' _ hx) hw).go
  rintro _ k3 ⟨rfl, hy⟩
  replace hx := hx.trans hy
  clear hy
  by_cases H4 : IsT m i.2.2.1
  rotate_left
  ·rw [BP_false H4]
   refine tW ?_
   exact noB rfl (fun h => H4 (h.cast (.inr H24))) hx (by simp)
  rw [BP_true H4]
  refine tW ?_
  exact yesB rfl ⟨H2, fun h => by omega, fun h => by omega, fun h => by omega, fun h => by omega, fun h => by omega, fun h => by omega, fun h => by omega, fun h => by omega, fun h => by omega, fun h => by omega, fun h => by omega, fun _ => H4⟩ hx (by simp)
 refine tW ?_
 refine tW ?_
 exact yesB rfl ⟨H2, fun h => by omega, fun h => by omega, fun h => by omega, fun h => by omega, fun h => by omega, fun h => by omega, fun h => by omega, fun h => by omega, fun h => by omega, fun h => by omega, fun h => by omega, fun h => by omega⟩ hx (by simp)
end Go.Proofs
end
section
open Go Go.Abs Go.Proofs.SlimCode Go.Img
namespace Go.Img
def TrapP (m : Image) (n : Nat) (t : Four) : Prop := (0 ≤ t.1 ∧ t.1 < t.2.1) ∧ t.2.1 ≤ (n : Int) ∧ (0 ≤ t.2.2.1 ∧ t.2.2.1 ≤ (n : Int) - 1) ∧ (t.2.2.2 = -1 ∨ IsT m t.2.2.2)
def HeadP (x : Mth) : Prop := 0 < x.code.length → x.code.length ≤ 100 ∧ x.args ≤ x.locals ∧ EndsP (x.code.getD (x.code.length - 1) (0, 0, 0, 0)).1
structure MethP (m : Image) (x : Mth) : Prop where
 args : 0 ≤ x.args ∧ x.args ≤ 7
 locals : 0 ≤ x.locals ∧ x.locals ≤ 16
 stack : 0 ≤ x.stack ∧ x.stack ≤ 16
 head : HeadP x
 traps : ∀ t ∈ x.traps, TrapP m x.code.length t
 code : ∀ i ∈ x.code, InsP m x.locals x.code.length i
end Go.Img
set_option maxRecDepth 100000
namespace Go.Proofs
theorem p130 {h : Heap} {c d e : List AV} {m : Image} {x : Mth} {i : Four} {b1 b2 : Nat} (hb1 : h b1 = some (.cells c)) (hb2 : h b2 = some (.cells d)) (hc : RImg h c m) (hw : m.WF) (hd : RMth h d x) (he : RFour h e i) (hlo : 0 ≤ x.locals ∧ x.locals ≤ 16) (hlc : Len x.code) : Looks Tryz.prog ann 130 [.agg e, .ptr b1 0, .ptr b2 0] h (.bool (BP (InsP m x.locals x.code.length i))) := by
 have hcl : c.length = 9 := by obtain ⟨vc, vm, vg, vw, vr, vs, vf, rfl, _⟩ := hc; rfl
 have hdl : d.length = 6 := by obtain ⟨vk, vt, rfl, _⟩ := hd; rfl
 have hel : e.length = 4 := by rw [show e = [I i.1, I i.2.1, I i.2.2.1, I i.2.2.2] from he]; rfl
 refine s_look_of rfl Tryz.func130 (frc (by with_unfolding_all rfl)) rfl ?_
 refine tS ?_
 apply o_val rfl rfl (RFour.one he)
 refine tV ?_
 apply o_ldhn rfl rfl hb1 (fun h => by omega) (sliceL_all hcl)
 apply o_ldhn rfl rfl hb2 (fun h => by omega) (sliceL_all hdl)
 apply o_loadn rfl rfl (sliceL_all hel)
 apply o_hcall rfl rfl rfl rfl (p131 hc hw hd he hlo hlc).go
 rintro _ k1 ⟨rfl, hy⟩
 refine tW ?_
 exact eqB rfl rfl hy (by simp)
theorem p128 {h : Heap} {c e : List AV} {m : Image} {n : Nat} {t : Four} {b1 b2 : Nat} (hm1 : h b1 = some (.cells [I n])) (hm2 : h b2 = some (.cells c)) (hc : RImg h c m) (hw : m.WF) (he : RFour h e t) (hn : n ≤ 9223372036854775807) : Looks Tryz.prog ann 128 [.agg e, .ptr b1 0, .ptr b2 0] h (.bool (BP (TrapP m n t))) := by
 have hR := hc
 have hcl : c.length = 9 := by obtain ⟨vc, vm, vg, vw, vr, vs, vf, rfl, _⟩ := hc; rfl
 obtain rfl : e = [I t.1, I t.2.1, I t.2.2.1, I t.2.2.2] := he
 have hx : Ext h h := .refl
 refine s_look_of rfl Tryz.func128 (frc (by with_unfolding_all rfl)) rfl ?_
 refine tS ?_
 apply o_val rfl rfl (show List.all _ AV.one = true from rfl)
 refine tV ?_
 refine oI (0 ≤ t.1) (fun H1 => ?_) (fun H1 => ?_)
 rotate_left
 ·refine tW ?_
  exact noB rfl (fun h => H1 h.1.1) hx (by simp)
 refine tW ?_
 refine oI (t.1 < t.2.1) (fun H2 => ?_) (fun H2 => ?_)
 rotate_left
 ·refine tW ?_
  exact noB rfl (fun h => H2 h.1.2) hx (by simp)
 refine tW ?_
 apply o_ldh rfl rfl (hx _ _ hm1) (fun h => by omega) rfl
 refine tV ?_
 refine oI (t.2.1 ≤ (n : Int)) (fun H3 => ?_) (fun H3 => ?_)
 rotate_left
 ·refine tW ?_
  exact noB rfl (fun h => H3 h.2.1) hx (by simp)
 refine tW ?_
 apply o_ldh rfl rfl (hx _ _ hm1) (fun h => by omega) rfl
 refine tV ?_
 apply o_as (w := I ((n : Int) - 1)) rfl rfl trivial (by rw [w64 (by omega) (by omega)])
 refine tV ?_
 apply o_hcall rfl rfl rfl rfl (p75).go
 rintro _ k1 ⟨rfl, hy⟩
 replace hx := hx.trans hy
 clear hy
 by_cases H4 : 0 ≤ t.2.2.1 ∧ t.2.2.1 ≤ (n : Int) - 1
 rotate_left
 ·rw [BP_false H4]
  refine tW ?_
  exact noB rfl (fun h => H4 h.2.2.1) hx (by simp)
 rw [BP_true H4]
 refine tW ?_
 refine oI (t.2.2.2 = -1) (fun H5 => ?_) (fun H5 => ?_)
 ·refine tW ?_
  exact yesB rfl ⟨⟨H1, H2⟩, H3, H4, .inl H5⟩ hx (by simp)
 refine tW ?_
 apply o_ldhn rfl rfl (hx _ _ hm2) (fun h => by omega) (sliceL_all hcl)
 refine tV ?_
 apply o_hcall rfl rfl rfl rfl (p79 (RImg.mono _ _ _ _ hx hR) hw).go
 rintro _ k1 ⟨rfl, hy⟩
 replace hx := hx.trans hy
 clear hy
 by_cases H6 : IsT m t.2.2.2
 rotate_left
 ·rw [BP_false H6]
  refine tW ?_
  exact noB rfl (fun h => h.2.2.2.elim H5 H6) hx (by simp)
 rw [BP_true H6]
 refine tW ?_
 exact yesB rfl ⟨⟨H1, H2⟩, H3, H4, .inr H6⟩ hx (by simp)
theorem p82 {h : Heap} {c d : List AV} {m : Image} {x : Mth} (hc : RImg h c m) (hw : m.WF) (hd : RMth h d x) (hwx : x.WF) : Looks Tryz.prog ann 82 [.agg c, .agg d] h (.bool (BP (MethP m x))) := by
 have hone := hc.one
 have hone2 := hd.one
 have lco : Len x.code := hwx.code.1
 have ltr : Len x.traps := hwx.traps.1
 have lc2 := lco
 unfold Len at lc2
 obtain ⟨vk, vt, rfl, u1, u2⟩ := hd
 refine s_look_of rfl Tryz.func82 (frc (by with_unfolding_all rfl)) rfl ?_
 refine tS ?_
 apply o_hbox (v := .agg c) rfl rfl hone
 intro b1 hb1
 apply o_hbox (v := .agg [I x.args, I x.locals, I x.stack, .bool x.gives, vk, vt]) rfl rfl hone2
 intro b2 hb2
 refine tV ?_
 apply o_ldh rfl rfl upd_same (fun h => by omega) rfl
 apply o_lenS rfl rfl (u1.mono RFour.mono ((Ext.upd hb1).trans (.upd hb2)))
 apply o_alc rfl
 intro b3 hb3
 apply o_st (v := I x.code.length) rfl rfl rfl rfl rfl rfl upd_same rfl
 rw [upd_upd]
 have h12 : b2 ≠ b1 := fun e => by rw [e, upd_same] at hb2; cases hb2
 have h23 : b3 ≠ b2 := fun e => by rw [e, upd_same] at hb3; cases hb3
 have h13 : b3 ≠ b1 := fun e => by rw [e, upd_ne h12.symm, upd_same] at hb3; cases hb3
 obtain ⟨G, hG⟩ : ∃ G, G = upd (upd (upd h b1 (some (.cells c))) b2 (some (.cells [I x.args, I x.locals, I x.stack, .bool x.gives, vk, vt]))) b3 (some (.cells [I x.code.length])) := ⟨_, rfl⟩
 have hG0 : Ext h G := by rw [hG]; exact ((Ext.upd hb1).trans (.upd hb2)).trans (.upd hb3)
 have g1 : G b1 = some (.cells c) := by rw [hG, upd_ne h13.symm, upd_ne h12.symm, upd_same]
 have g2 : G b2 = some (.cells [I x.args, I x.locals, I x.stack, .bool x.gives, vk, vt]) := by rw [hG, upd_ne h23.symm, upd_same]
 have g3 : G b3 = some (.cells [I x.code.length]) := by rw [hG, upd_same]
 show SOps _ _ _ _ _ _ _ _ [] (upd (upd (upd h b1 (some (.cells c))) b2 (some (.cells [I x.args, I x.locals, I x.stack, .bool x.gives, vk, vt]))) b3 (some (.cells [I x.code.length]))) _
 rw [← hG]
 clear hG hb1 hb2 hb3
 replace hc := RImg.mono _ _ _ _ hG0 hc
 replace u1 := u1.mono RFour.mono hG0
 replace u2 := u2.mono RFour.mono hG0
 have hd : RMth G [I x.args, I x.locals, I x.stack, .bool x.gives, vk, vt] x := ⟨vk, vt, rfl, u1, u2⟩
 have hx : Ext G G := .refl
 refine tV ?_
 apply o_ldh rfl rfl (hx _ _ g2) (fun h => by omega) rfl
 refine tV ?_
 apply o_hcall rfl rfl rfl rfl (p75).go
 rintro _ k1 ⟨rfl, hy⟩
 replace hx := hx.trans hy
 clear hy
 by_cases H1 : 0 ≤ x.args ∧ x.args ≤ 7
 rotate_left
 ·rw [BP_false H1]
  refine tW ?_
  exact noB rfl (fun h => H1 h.args) (hG0.trans hx) (by simp)
 rw [BP_true H1]
 refine tW ?_
 apply o_ldh rfl rfl (hx _ _ g2) (fun h => by omega) rfl
 refine tV ?_
 apply o_hcall rfl rfl rfl rfl (p75).go
 rintro _ k2 ⟨rfl, hy⟩
 replace hx := hx.trans hy
 clear hy
 by_cases H2 : 0 ≤ x.locals ∧ x.locals ≤ 16
 rotate_left
 ·rw [BP_false H2]
  refine tW ?_
  exact noB rfl (fun h => H2 h.locals) (hG0.trans hx) (by simp)
 rw [BP_true H2]
 refine tW ?_
 apply o_ldh rfl rfl (hx _ _ g2) (fun h => by omega) rfl
 refine tV ?_
 apply o_hcall rfl rfl rfl rfl (p75).go
 rintro _ k3 ⟨rfl, hy⟩
 replace hx := hx.trans hy
 clear hy
 by_cases H3 : 0 ≤ x.stack ∧ x.stack ≤ 16
 rotate_left
 ·rw [BP_false H3]
  refine tW ?_
  exact noB rfl (fun h => H3 h.stack) (hG0.trans hx) (by simp)
 rw [BP_true H3]
 refine tw ?_
 refine tw ?_
 refine tw ?_
 refine tw ?_
 refine tw ?_
 refine tw ?_
 refine tw ?_
 refine tw ?_
 refine s_join (σ := Unit) (fun _ => [(2, .ptr b1 0), (3, .ptr b2 0), (5, .ptr b3 0)]) (fun _ h' => Ext G h' ∧ HeadP x) ?_ ?_
 ·have hx := hx
  refine tV ?_
  apply o_ldh rfl rfl (hx _ _ g3) (fun h => by omega) rfl
  refine tV ?_
  refine oI (0 < x.code.length) (fun H4 => ?_) (fun H4 => ?_)
  rotate_left
  ·refine tW ?_
   refine ⟨(), tU, rfl, hx, fun h => absurd h H4⟩
  refine tW ?_
  apply o_ldh rfl rfl (hx _ _ g3) (fun h => by omega) rfl
  refine tV ?_
  refine oI (100 < x.code.length) (fun H5 => ?_) (fun H5 => ?_)
  ·refine tW ?_
   exact noB rfl (fun h => absurd (h.head H4).1 (by omega)) (hG0.trans hx) (by simp)
  refine tW ?_
  apply o_ldh rfl rfl (hx _ _ g2) (fun h => by omega) rfl
  refine tW ?_
  apply o_ldh rfl rfl (hx _ _ g2) (fun h => by omega) rfl
  refine tV ?_
  refine oI (x.locals < x.args) (fun H6 => ?_) (fun H6 => ?_)
  ·refine tW ?_
   exact noB rfl (fun h => absurd (h.head H4).2.1 (by omega)) (hG0.trans hx) (by simp)
  refine tW ?_
  apply o_ldh rfl rfl (hx _ _ g2) (fun h => by omega) rfl
  refine tV ?_
  apply o_ldh rfl rfl (hx _ _ g3) (fun h => by omega) rfl
  refine tV ?_
  apply o_as (w := I (((x.code.length - 1 : Nat) : Int))) rfl rfl trivial (by rw [w64 (by omega) (by omega)]; congr 1; omega)
  refine tV ?_
  apply o_iaS rfl rfl rfl (u1.mono RFour.mono hx) (show x.code.length - 1 < _ by omega)
  intro p cs hp hcs hcl
  obtain rfl : cs = [I _, I _, I _, I _] := hcs
  refine tV ?_
  apply o_faV [I x.code[x.code.length - 1].1] rfl rfl hp rfl
  intro p2 hp2
  refine tV ?_
  apply o_ldV rfl rfl hp2 (fun h => by omega)
  refine tV ?_
  apply o_hcall rfl rfl rfl rfl (p126).go
  rintro _ k4 ⟨rfl, hy⟩
  replace hx := hx.trans hy
  clear hy
  have hl : x.code.getD (x.code.length - 1) (0, 0, 0, 0) = x.code[x.code.length - 1] := by rw [List.getD_eq_getElem?_getD, List.getElem?_eq_getElem (by omega)]; rfl
  by_cases H7 : EndsP x.code[x.code.length - 1].1
  rotate_left
  ·rw [BP_false H7]
   refine tW ?_
   exact noB rfl (fun h => H7 (hl ▸ (h.head H4).2.2)) (hG0.trans hx) (by simp)
  rw [BP_true H7]
  refine tW ?_
  refine ⟨(), tU, rfl, hx, fun _ => ⟨by omega, by omega, by rw [hl]; exact H7⟩⟩
 clear hx
 rintro _ k5 ⟨hx, H4⟩
 refine tV ?_
 apply o_ldh rfl rfl (hx _ _ g2) (fun h => by omega) rfl
 refine tV ?_
 refine tV ?_
 apply o_hcall rfl rfl rfl rfl (all_of_BP (P := fun t => TrapP m x.code.length t) (pall_trap (u2.mono RFour.mono hx) ltr (asks_agg fun t _ h2 e i hc2 _ => p128 (i _ _ (hx _ _ g3)) (i _ _ (hx _ _ g1)) (RImg.mono _ _ _ _ (hx.trans i) hc) hw hc2 lc2))).go
 rintro _ k6 ⟨rfl, hy⟩
 replace hx := hx.trans hy
 clear hy
 by_cases H5 : ∀ t ∈ x.traps, TrapP m x.code.length t
 rotate_left
 ·rw [BP_false H5]
  refine tW ?_
  exact noB rfl (fun h => H5 h.traps) (hG0.trans hx) (by simp)
 rw [BP_true H5]
 refine tW ?_
 apply o_ldh rfl rfl (hx _ _ g2) (fun h => by omega) rfl
 refine tV ?_
 apply o_hcall rfl rfl rfl rfl (all_of_BP (P := fun i => InsP m x.locals x.code.length i) (pall_ins (u1.mono RFour.mono hx) lco (asks_agg fun t _ h2 e i hc2 _ => p130 (i _ _ (hx _ _ g1)) (i _ _ (hx _ _ g2)) (RImg.mono _ _ _ _ (hx.trans i) hc) hw (RMth.mono _ _ _ _ (hx.trans i) hd) hc2 H2 lco))).go
 rintro _ k7 ⟨rfl, hy⟩
 replace hx := hx.trans hy
 clear hy
 by_cases H6 : ∀ i ∈ x.code, InsP m x.locals x.code.length i
 rotate_left
 ·rw [BP_false H6]
  refine tW ?_
  exact noB rfl (fun h => H6 h.code) (hG0.trans hx) (by simp)
 rw [BP_true H6]
 refine tW ?_
 exact yesB rfl ⟨H1, H2, H3, H4, H5, H6⟩ (hG0.trans hx) (by simp)
end Go.Proofs
end
section
open Go Go.Abs Go.Proofs.SlimCode Go.Img
namespace Go.Img
def MayW (k n : Int) : Prop := 0 ≤ k ∧ k ≤ 10000 ∧ 0 ≤ n ∧ n ≤ 1000
def Ob (w : List Int) (a : Nat) : Prop := a + 1 < w.length ∧ MayW (w.getD a 0) (w.getD (a + 1) 0) ∧ w.getD (a + 1) 0 ≤ (w.length : Int) - a - 2
instance (w : List Int) (a : Nat) : Decidable (Ob w a) := by unfold Ob MayW; infer_instance
def scan (w : List Int) (a : Nat) : Option (List Nat) :=
 if a < w.length then
  if Ob w a then (scan w (a + 2 + (w.getD (a + 1) 0).toNat)).map (a :: ·) else none
 else some []
termination_by w.length - a
def parse (w : List Int) : Option (List Nat) := if w.length ≤ 1048576 then scan w 0 else none
def startsOf (n : Nat) (l : List Nat) : List Bool := (List.range n).map fun i => decide (i ∈ l)
theorem startsOf_nil (n : Nat) : startsOf n [] = List.replicate n false := by
 apply List.ext_getElem <;> simp [startsOf]
theorem startsOf_len {n : Nat} {l : List Nat} : (startsOf n l).length = n := by simp [startsOf]
theorem startsOf_set (n : Nat) (l : List Nat) (a : Nat) : startsOf n (l ++ [a]) = (startsOf n l).set a true := by
 apply List.ext_getElem
 ·simp [startsOf]
 intro i h1 h2
 simp only [startsOf, List.getElem_map, List.getElem_range, List.getElem_set, List.mem_append, List.mem_singleton]
 by_cases e : a = i
 ·subst e
  simp
 ·have : ¬ i = a := fun h => e h.symm
  simp [e, this]
theorem startsOf_at {n : Nat} {l : List Nat} {a : Nat} (h : a < (startsOf n l).length) : (startsOf n l)[a] = decide (a ∈ l) := by
 simp only [startsOf, List.getElem_map, List.getElem_range]
theorem scan_done {w : List Int} {a : Nat} (h : ¬ a < w.length) : scan w a = some [] := by rw [scan, if_neg h]
theorem scan_bad {w : List Int} {a : Nat} (h : a < w.length) (h2 : ¬ Ob w a) : scan w a = none := by rw [scan, if_pos h, if_neg h2]
theorem scan_ob {w : List Int} {a : Nat} (h : a < w.length) (h2 : Ob w a) : scan w a = (scan w (a + 2 + (w.getD (a + 1) 0).toNat)).map (a :: ·) := by rw [scan, if_pos h, if_pos h2]
theorem scan_mem {w : List Int} : ∀ (n a : Nat) (l : List Nat), w.length - a ≤ n → scan w a = some l → ∀ x ∈ l, Ob w x := by
 intro n
 induction n with
 | zero =>
  intro a l hn h x hx
  rw [scan_done (by omega)] at h
  cases h
  cases hx
 | succ n ih =>
  intro a l hn h x hx
  by_cases h1 : a < w.length
  ·by_cases h2 : Ob w a
   ·rw [scan_ob h1 h2] at h
    cases e : scan w (a + 2 + (w.getD (a + 1) 0).toNat) with
    | none => rw [e] at h; cases h
    | some l2 =>
     rw [e] at h
     cases h
     rcases List.mem_cons.1 hx with rfl | hx
     ·exact h2
     ·exact ih _ l2 (by omega) e x hx
   ·rw [scan_bad h1 h2] at h
    cases h
  ·rw [scan_done h1] at h
   cases h
   cases hx
theorem parse_mem {w : List Int} {l : List Nat} (h : parse w = some l) : ∀ x ∈ l, Ob w x := by
 unfold parse at h
 split at h
 ·exact scan_mem _ 0 l (Nat.le_refl _) h
 ·cases h
end Go.Img
set_option maxRecDepth 100000
namespace Go.Proofs
def HObj (g h : Heap) (b : Nat) (w : List Int) (l : List Nat) : Prop := ∃ v1 v2, h b = some (.cells [I 1048576, v1, v2]) ∧ g b = none ∧ Sl (RN .i32) 1 h v1 w ∧ Sl RB 1 h v2 (startsOf w.length l) ∧ (∀ i ∈ slIds v1, g i = none) ∧ ∀ i ∈ slIds v2, g i = none
theorem p170 {h : Heap} {k n : Int} : Looks Tryz.prog ann 170 [I k, I n] h (.bool (BP (MayW k n))) := by
 have hx : Ext h h := .refl
 refine s_look_of rfl Tryz.func170 (frc (by with_unfolding_all rfl)) rfl ?_
 refine tV ?_
 refine oI (0 ≤ k) (fun H1 => ?_) (fun H1 => ?_)
 rotate_left
 ·refine tW ?_
  exact noB rfl (fun h => H1 h.1) hx (by simp)
 refine tV ?_
 refine oI (k ≤ 10000) (fun H2 => ?_) (fun H2 => ?_)
 rotate_left
 ·refine tW ?_
  exact noB rfl (fun h => H2 h.2.1) hx (by simp)
 refine tV ?_
 refine oI (0 ≤ n) (fun H3 => ?_) (fun H3 => ?_)
 rotate_left
 ·refine tW ?_
  exact noB rfl (fun h => H3 h.2.2.1) hx (by simp)
 refine tV ?_
 refine oI (n ≤ 1000) (fun H4 => ?_) (fun H4 => ?_)
 rotate_left
 ·refine tW ?_
  exact noB rfl (fun h => H4 h.2.2.2) hx (by simp)
 refine tW ?_
 exact yesB rfl ⟨H1, H2, H3, H4⟩ hx (by simp)
theorem p146 {h : Heap} : HCallC Tryz.prog ann 146 [I 1048576] h fun v h' => ∃ b, h b = none ∧ v = .ptr b 0 ∧ h' = upd h b (some (.cells [I 1048576, .nil .sl, .nil .sl])) := by
 refine s_call_x rfl Tryz.func146 (frc (by with_unfolding_all rfl)) rfl ?_
 refine tW ?_
 apply o_hbox (v := .agg [I 1048576, .nil .sl, .nil .sl]) rfl rfl rfl
 intro b hb
 refine tW ?_
 (first | apply hx_ret | apply hx_norm)
 ·exact rfl
 ·exact rfl
 ·exact ⟨b, hb, rfl, killL_nil⟩
 ·exact fun h => by cases h
theorem vsl_notnil {E : Lk} {x : SX} {h : Heap} {s n : Nat} {v : AV} {cs : List AV} (H : VSl h s v cs n) (hn : v ≠ .nil .sl) (hx : ev E x = some v) : sv E (.isnil false .sl x) = some (True, .bool false) := by
 simp only [sv, hx]
 cases H with
 | nil => exact absurd rfl hn
 | tsl _ _ _ => rfl
 | sl _ _ _ _ _ _ _ => rfl
theorem p145o {h : Heap} {v : AV} {l : List Int} (hv : Sl (RN .i32) 1 h v l) (hl : l.length ≤ 1048576) : HCallC Tryz.prog ann 145 [v] h fun w h' => OSl h 1 w (nums .i32 l) l.length h' := by
 obtain ⟨cs, c1, c2, hone⟩ := sl_cells hv (fun c a hc => by rw [show c = [.int .i32 a] from hc]; rfl)
 obtain rfl : cs = nums .i32 l := Chunks.map c2
 by_cases hn : v = .nil .sl
 ·subst hn
  have e0 : l = [] := List.length_eq_zero_iff.1 (by generalize hq : nums .i32 l = cs at c1; generalize l.length = n at c1 ⊢; cases c1; rfl)
  subst e0
  refine s_call_x rfl Tryz.func145 (frc (by with_unfolding_all rfl)) rfl ?_
  refine tW ?_
  (first | apply hx_ret | apply hx_norm)
  ·exact rfl
  ·exact rfl
  ·rw [killL_nil]
   exact .nil .refl
  ·exact fun _ => .inl (.nil .refl)
 refine s_call_x rfl Tryz.func145 (frc (by with_unfolding_all rfl)) rfl ?_
 refine tV ?_
 apply o_val (v := .bool false) rfl (vsl_notnil c1 hn rfl) trivial
 refine tV ?_
 apply o_hbs rfl rfl rfl
 intro i hi
 refine tV ?_
 apply o_appO (old := []) (l := 0) (new := nums .i32 l) (hb := h) rfl rfl rfl rfl ⟨.upd hi, .inr ⟨i, rfl, hi, upd_same, rfl⟩⟩ (srcOf_V (c1.mono (.upd hi))) c1.len hone (by omega)
 intro w h1 O _
 rw [Nat.zero_add] at O
 refine tW ?_
 (first | apply hx_ret | apply hx_norm)
 ·exact rfl
 ·exact rfl
 ·rw [killL_nil]
  exact O
 ·intro ht
  rcases O.own with ⟨rfl, e1, e2⟩ | ⟨j, rfl, hj, _⟩
  ·exact .inl ⟨.refl, .inl ⟨rfl, e1, e2⟩⟩
  ·cases ht
theorem p145 {h : Heap} {v : AV} {l : List Int} (hv : Sl (RN .i32) 1 h v l) (hl : l.length ≤ 1048576) : HCallC Tryz.prog ann 145 [v] h fun w h' => Ext h h' ∧ Sl (RN .i32) 1 h' w l ∧ ∀ i ∈ slIds w, h i = none := by
 refine (p145o hv hl).mono fun w h' O => ⟨O.ext, ⟨_, O.view, Chunks.of_map⟩, fun i hi => ?_⟩
 rcases O.own with ⟨rfl, _⟩ | ⟨j, rfl, hj, _⟩
 ·cases hi
 ·obtain rfl := List.mem_singleton.1 hi
  exact hj
end Go.Proofs
end
section
open Go Go.Abs Go.Proofs.SlimCode Go.Img
set_option maxRecDepth 100000
namespace Go.Proofs
def Has1 (K : Heap) (j : Nat) (cs : List AV) (h : Heap) : Prop := h j = some (.cells cs) ∧ Ext K (upd h j none)
theorem Has1.ext {g K h : Heap} {j : Nat} {cs : List AV} (H : Has1 K j cs h) (hx : Ext g K) : Ext g h := by
 intro id o e
 have e1 := H.2 _ _ (hx _ _ e)
 by_cases hid : id = j
 ·subst hid
  rw [upd_same] at e1
  cases e1
 ·rwa [upd_ne hid] at e1
theorem Has1.up {K h h' : Heap} {j : Nat} {cs : List AV} (H : Has1 K j cs h) (hx : Ext h h') : Has1 K j cs h' := by
 refine ⟨hx _ _ H.1, fun id o e => ?_⟩
 have e1 := H.2 _ _ e
 by_cases hid : id = j
 ·subst hid
  rw [upd_same] at e1
  cases e1
 ·rw [upd_ne hid] at e1 ⊢
  exact hx _ _ e1
theorem Has1.set {K h : Heap} {j : Nat} {cs cs' : List AV} (H : Has1 K j cs h) : Has1 K j cs' (upd h j (some (.cells cs'))) :=
 ⟨upd_same, by rw [upd_upd]; exact H.2⟩
theorem Has1.at {K h : Heap} {j b : Nat} {cs : List AV} {o : AObj} (H : Has1 K j cs h) (hb : b ≠ j) (e : K b = some o) : h b = some o := by
 have := H.2 _ _ e
 rwa [upd_ne hb] at this
theorem zeros_starts {n : Nat} : zerosA [.bool false] (n * 1) = (startsOf n []).map AV.bool := by
 rw [startsOf_nil]
 apply List.ext_getElem <;> simp [zerosA, Nat.mod_one]
theorem chunks_bools (h : Heap) : ∀ l : List Bool, Chunks (RB h) 1 (l.map AV.bool) l
 | [] => .nil
 | b :: l => by
  rw [List.map_cons]
  exact .cons (c := [.bool b]) rfl rfl (chunks_bools h l)
theorem scan_step {w : List Int} {l : List Nat} {a : Nat} (h0 : scan w 0 = (scan w a).map (l ++ ·)) (h1 : a < w.length) (h2 : Ob w a) : scan w 0 = (scan w (a + 2 + (w.getD (a + 1) 0).toNat)).map ((l ++ [a]) ++ ·) := by
 rw [h0, scan_ob h1 h2, Option.map_map]
 congr 1
 funext x
 simp
theorem p132 {h : Heap} {v : AV} {w : List Int} (hv : Sl (RN .i32) 1 h v w) (hl : Len w) (h32 : ∀ x ∈ w, I32 x) : HCallC Tryz.prog ann 132 [v, I 1048576] h fun r h2 => Ext h h2 ∧ match parse w with
  | none => r = .tup [.nil .ptr, .bool false]
  | some l => ∃ b, r = .tup [.ptr b 0, .bool true] ∧ HObj h h2 b w l := by
 unfold Len at hl
 refine s_call_x rfl Tryz.func132 (frc (by with_unfolding_all rfl)) rfl ?_
 refine tV ?_
 apply o_hcall rfl rfl rfl rfl p146
 rintro _ _ ⟨b, hb, rfl, rfl⟩
 refine tV ?_
 apply o_lenS rfl rfl (hv.mono RN.mono (.upd hb))
 refine tV ?_
 apply o_ldh rfl rfl upd_same (fun h => by omega) rfl
 refine tV ?_
 refine oI (1048576 < w.length) (fun H1 => ?_) (fun H1 => ?_)
 ·refine tW ?_
  have hpn : parse w = none := by
   unfold parse
   rw [if_neg (by omega)]
  (first | apply hx_ret | apply hx_norm)
  ·exact rfl
  ·exact rfl
  ·rw [killL_nil, hpn]
   exact ⟨.upd hb, rfl⟩
  ·intro _
   left
   rw [hpn]
   exact ⟨.refl, rfl⟩
 refine tX ?_
 have hkb : killL [b] (upd h b (some (.cells [I 1048576, .nil .sl, .nil .sl]))) = h := by
  funext id
  unfold killL upd
  by_cases e : id = b
  ·subst e
   simp [hb]
  ·simp [e]
 apply s_regX [b] [.A, .A, .A, .A, .A, .C, .C, .A, .A, .E, .A, .A, .D] (by intro id hid; obtain rfl := List.mem_singleton.1 hid; rw [upd_same]; simp) rfl
 apply x_v rfl rfl trivial
 apply x_v rfl rfl trivial
 apply x_v rfl rfl trivial
 refine x_A (R := fun E' bx' k => ∃ w1, E' = (20, w1) :: _ ∧ bx' = [] ∧ Ext h k ∧ Sl (RN .i32) 1 k w1 w ∧ ∀ i ∈ slIds w1, h i = none) (by
  rw [hkb]
  exact o_hcall rfl rfl rfl rfl (p145 hv (by omega)) fun w1 k q => o_nil ⟨rfl, w1, rfl, rfl, q⟩) ?_
 rintro _ _ k1 ⟨w1, rfl, rfl, hx1, s1, i1⟩ hk1
 replace hk1 := hk1 b (by simp)
 have ej : joinS [b] (upd h b (some (.cells [I 1048576, .nil .sl, .nil .sl]))) k1 = upd k1 b (some (.cells [I 1048576, .nil .sl, .nil .sl])) := by
  funext id
  unfold joinS upd
  by_cases e : id = b
  ·subst e
   simp
  ·simp [e]
 rw [ej]
 have hxb : ∀ o, Ext h (upd k1 b (some o)) := fun o => hx1.trans (.upd hk1)
 apply x_v rfl rfl trivial
 apply x_lenC rfl rfl (hv.mono RN.mono (hxb _))
 apply x_mksC rfl rfl rfl (by omega) (by omega)
 intro j hj
 have hbj : b ≠ j := fun e => by rw [e, upd_same] at hj; cases hj
 have hjk : k1 j = none := by rwa [upd_ne hbj.symm] at hj
 apply x_v rfl rfl trivial
 apply x_v rfl rfl trivial
 apply x_st1E rfl rfl rfl s1.one (by rw [upd_ne hbj]; exact upd_same) (by simp) (show (1 : Nat) < 3 by decide)
 apply x_v rfl rfl trivial
 apply x_v rfl rfl trivial
 rw [show ((w.length : Int)).toNat = w.length by omega]
 obtain ⟨K, hK⟩ : ∃ K, K = upd k1 b (some (.cells [I 1048576, w1, .sl j 0 w.length 1])) := ⟨_, rfl⟩
 have hKb : K b = some (.cells [I 1048576, w1, .sl j 0 w.length 1]) := by rw [hK, upd_same]
 have hKj : K j = none := by rw [hK, upd_ne hbj.symm]; exact hjk
 have hhK : Ext h K := by rw [hK]; exact hxb _
 have sK : Sl (RN .i32) 1 K w1 w := by rw [hK]; exact s1.mono RN.mono (.upd hk1)
 refine x_D (R := fun E' bx' k => E' = undefE none _ ∧ bx' = [] ∧ k = upd K j (some (.cells ((startsOf w.length []).map AV.bool)))) (o_st1 rfl rfl rfl rfl rfl upd_same (show (2 : Nat) < 3 by decide) (o_nil ⟨rfl, rfl, rfl, ?_⟩)) ?_
 ·funext id
  rw [hK, ← zeros_starts]
  unfold upd
  by_cases e : id = b
  ·subst e
   simp [hbj]
  ·simp [e]
 rintro _ _ _ ⟨rfl, rfl, rfl⟩
 refine ⟨fun id hid => by obtain rfl := List.mem_singleton.1 hid; rw [upd_ne hbj, hKb]; simp, ?_⟩
 apply x_nil
 have H0 : Has1 K j ((startsOf w.length []).map AV.bool) (upd K j (some (.cells ((startsOf w.length []).map AV.bool)))) := ⟨upd_same, by
  rw [upd_upd]
  intro id o e
  by_cases hid : id = j
  ·subst hid
   rw [hKj] at e
   cases e
  ·rw [upd_ne hid]
   exact e⟩
 generalize upd K j (some (.cells ((startsOf w.length []).map AV.bool))) = h2 at H0 ⊢
 clear hj ej hxb hK hkb hx1 s1 hk1 hjk
 refine tV ?_
 refine s_loop (fun s : Nat × List Nat => [(0, v), (6, .ptr b 0), (7, .int .i64 (s.1 : Int))]) (fun s h' => Has1 K j ((startsOf w.length s.2).map AV.bool) h' ∧ scan w 0 = (scan w s.1).map (s.2 ++ ·)) (fun s => w.length - s.1) (0, [])
  tU ⟨H0, by simp⟩ ?_
 clear H0
 rintro ⟨a, l⟩ h' ⟨H0, hs⟩
 simp only at H0 hs ⊢
 have hx : Ext h h' := H0.ext hhK
 refine tV ?_
 apply o_lenS rfl rfl (hv.mono RN.mono hx)
 refine tV ?_
 refine oI (a < w.length) (fun H2 => ?_) (fun H2 => ?_)
 rotate_left
 ·refine tW ?_
  have hps : parse w = some l := by
   unfold parse
   rw [if_pos (by omega), hs, scan_done H2]
   simp
  (first | apply hx_ret | apply hx_norm)
  ·exact rfl
  ·exact rfl
  ·rw [killL_nil, hps]
   have hbn : h b = none := by
    cases e : h b with
    | none => rfl
    | some o => rw [e] at hb; cases hb
   refine ⟨hx, b, rfl, w1, .sl j 0 w.length 1, H0.at hbj hKb, hbn, ?_, ⟨_, ?_, chunks_bools _ _⟩, i1, fun i hi => ?_⟩
   ·obtain ⟨cs, c1, c2⟩ := sK
    refine ⟨cs, ?_, c2⟩
    generalize w.length = n at *
    cases c1 with
    | nil => exact .nil
    | tsl _ _ hl => exact .tsl _ _ hl
    | sl id off _ os _ hi hc => exact .sl id off _ os _ (H0.at (fun e => by rw [e, hKj] at hi; cases hi) hi) hc
   ·rw [startsOf_len]
    exact .sl j 0 _ _ _ H0.1 (sliceL_all (by rw [List.length_map, startsOf_len, Nat.mul_one]))
   ·obtain rfl := List.mem_singleton.1 hi
    cases e : h i with
    | none => rfl
    | some o => rw [hhK _ _ e] at hKj; cases hKj
  ·exact fun h => by cases h
 refine tX ?_
 have hgd : ∀ i, (hi : i < w.length) → w.getD i 0 = w[i] := fun i hi => by rw [List.getD_eq_getElem?_getD, List.getElem?_eq_getElem hi]; rfl
 have h3 : ∀ i, I32 (w.getD i 0) := fun i => by
  by_cases hi : i < w.length
  ·rw [hgd i hi]
   exact h32 _ (List.getElem_mem hi)
  ·rw [List.getD_eq_getElem?_getD, List.getElem?_eq_none (by omega)]
   unfold I32
   exact ⟨by decide, by decide⟩
 apply s_regX (slIds v) [.A, .A, .A, .A, .A, .A, .A, .A, .A, .B, .A, .A, .A, .A, .A, .B, .C, .A, .A, .A, .A, .A, .A, .A, .A, .B, .A, .A, .C, .A, .A, .A, .A, .A] (by
  intro i hi
  obtain ⟨cs, c1, _⟩ := hv.mono RN.mono hx
  exact c1.live i hi) rfl
 apply x_v rfl rfl trivial
 apply x_as (w := I (((a + 1 : Nat) : Int))) rfl rfl trivial (by rw [w64 (by omega) (by omega)]; rfl)
 apply x_v rfl rfl trivial
 apply x_lenA rfl rfl (hv.mono RN.mono hx)
 apply x_bool rfl rfl trivial
 intro b3 hb3
 by_cases H3 : a + 1 = w.length
 ·obtain rfl : b3 = true := by
   rw [hb3]
   exact decide_eq_true (by omega)
  apply x_v rfl rfl trivial
  apply x_gF rfl rfl
  apply x_gF rfl rfl
  apply x_gF rfl rfl
  apply x_gF rfl rfl
  apply x_gF rfl rfl
  apply x_gF rfl rfl
  apply x_gF rfl rfl
  apply x_gF rfl rfl
  apply x_gF rfl rfl
  apply x_gF rfl rfl
  apply x_gF rfl rfl
  apply x_gF rfl rfl
  apply x_gF rfl rfl
  apply x_v rfl rfl trivial
  apply x_v rfl rfl trivial
  apply x_gF rfl rfl
  apply x_gF rfl rfl
  apply x_gF rfl rfl
  apply x_gF rfl rfl
  apply x_gF rfl rfl
  apply x_gF rfl rfl
  apply x_gF rfl rfl
  apply x_gF rfl rfl
  apply x_gF rfl rfl
  apply x_gF rfl rfl
  apply x_gF rfl rfl
  apply x_gF rfl rfl
  apply x_v rfl rfl trivial
  apply x_nil
  have HB : ¬ Ob w a := fun h => by have := h.1; omega
  refine tW ?_
  have hpn : parse w = none := by
   unfold parse
   rw [if_pos (by omega), hs, scan_bad H2 HB]
   rfl
  (first | apply hx_ret | apply hx_norm)
  ·exact rfl
  ·exact rfl
  ·rw [killL_nil, hpn]
   exact ⟨hx, rfl⟩
  ·intro _
   left
   rw [hpn]
   exact ⟨.refl, rfl⟩
 obtain rfl : b3 = false := by
  rw [hb3]
  exact decide_eq_false (by omega)
 apply x_v rfl rfl trivial
 apply x_gT rfl
 apply x_v rfl rfl trivial
 apply x_gT rfl
 apply x_v rfl rfl trivial
 apply x_gT rfl
 apply x_iaA rfl rfl rfl (hv.mono RN.mono hx) H2 (fun i hi => hi)
 intro p c hp hpi hc hcl
 apply x_gT rfl
 apply x_ldB rfl rfl hp hpi (.one hc)
 clear hp hpi hc hcl
 apply x_gT rfl
 apply x_as (w := I (w.getD (a) 0)) rfl rfl trivial (by have h4 := h3 (a); unfold I32 at h4; rw [hgd _ (by omega)] at h4 ⊢; rw [w64 (by omega) (by omega)])
 apply x_gT rfl
 apply x_v rfl rfl trivial
 apply x_gT rfl
 apply x_v rfl rfl trivial
 apply x_gT rfl
 apply x_as (w := I (((a + 1 : Nat) : Int))) rfl rfl trivial (by rw [w64 (by omega) (by omega)]; rfl)
 apply x_gT rfl
 apply x_iaA rfl rfl rfl (hv.mono RN.mono hx) (by omega) (fun i hi => hi)
 intro p c hp hpi hc hcl
 apply x_gT rfl
 apply x_ldB rfl rfl hp hpi (.one hc)
 clear hp hpi hc hcl
 apply x_gT rfl
 apply x_asC (w := I (w.getD (a + 1) 0)) rfl rfl rfl trivial (by have h4 := h3 (a + 1); unfold I32 at h4; rw [hgd _ (by omega)] at h4 ⊢; rw [w64 (by omega) (by omega)])
 apply x_gT rfl
 apply x_lookA rfl rfl rfl (by exact p170 (k := w.getD a 0) (n := w.getD (a + 1) 0))
 intro h4 hy
 replace H0 := H0.up hy
 replace hx := hx.trans hy
 clear hy
 by_cases H4 : MayW (w.getD a 0) (w.getD (a + 1) 0)
 rotate_left
 ·rw [BP_false H4]
  apply x_gT rfl
  apply x_v rfl rfl trivial
  apply x_v rfl rfl trivial
  apply x_v rfl rfl trivial
  apply x_gF rfl rfl
  apply x_gF rfl rfl
  apply x_gF rfl rfl
  apply x_gF rfl rfl
  apply x_gF rfl rfl
  apply x_gF rfl rfl
  apply x_gF rfl rfl
  apply x_gF rfl rfl
  apply x_gF rfl rfl
  apply x_gF rfl rfl
  apply x_gF rfl rfl
  apply x_gF rfl rfl
  apply x_v rfl rfl trivial
  apply x_nil
  have HB : ¬ Ob w a := fun h => H4 h.2.1
  refine tW ?_
  have hpn : parse w = none := by
   unfold parse
   rw [if_pos (by omega), hs, scan_bad H2 HB]
   rfl
  (first | apply hx_ret | apply hx_norm)
  ·exact rfl
  ·exact rfl
  ·rw [killL_nil, hpn]
   exact ⟨hx, rfl⟩
  ·intro _
   left
   rw [hpn]
   exact ⟨.refl, rfl⟩
 rw [BP_true H4]
 apply x_gT rfl
 apply x_v rfl rfl trivial
 apply x_v rfl rfl trivial
 apply x_v rfl rfl trivial
 apply x_gT rfl
 apply x_v rfl rfl trivial
 apply x_gT rfl
 apply x_v rfl rfl trivial
 apply x_gT rfl
 apply x_as (w := I (((a + 1 : Nat) : Int))) rfl rfl trivial (by rw [w64 (by omega) (by omega)]; rfl)
 apply x_gT rfl
 apply x_iaA rfl rfl rfl (hv.mono RN.mono hx) (by omega) (fun i hi => hi)
 intro p c hp hpi hc hcl
 apply x_gT rfl
 apply x_ldB rfl rfl hp hpi (.one hc)
 clear hp hpi hc hcl
 apply x_gT rfl
 apply x_as (w := I (w.getD (a + 1) 0)) rfl rfl trivial (by have h4 := h3 (a + 1); unfold I32 at h4; rw [hgd _ (by omega)] at h4 ⊢; rw [w64 (by omega) (by omega)])
 apply x_gT rfl
 apply x_v rfl rfl trivial
 apply x_gT rfl
 apply x_lenC rfl rfl (hv.mono RN.mono hx)
 apply x_gT rfl
 apply x_v rfl rfl trivial
 apply x_gT rfl
 apply x_as (w := I ((w.length : Int) - a)) rfl rfl trivial (by rw [w64 (by omega) (by omega)])
 apply x_gT rfl
 apply x_as (w := I ((w.length : Int) - a - 2)) rfl rfl trivial (by rw [w64 (by omega) (by omega)])
 apply x_gT rfl
 apply x_bool rfl rfl trivial
 intro b5 hb5
 by_cases H5 : w.getD (a + 1) 0 ≤ (w.length : Int) - a - 2
 rotate_left
 ·obtain rfl : b5 = true := by
   rw [hb5]
   exact decide_eq_true (by omega)
  apply x_v rfl rfl trivial
  apply x_nil
  have HB : ¬ Ob w a := fun h => H5 h.2.2
  refine tW ?_
  have hpn : parse w = none := by
   unfold parse
   rw [if_pos (by omega), hs, scan_bad H2 HB]
   rfl
  (first | apply hx_ret | apply hx_norm)
  ·exact rfl
  ·exact rfl
  ·rw [killL_nil, hpn]
   exact ⟨hx, rfl⟩
  ·intro _
   left
   rw [hpn]
   exact ⟨.refl, rfl⟩
 obtain rfl : b5 = false := by
  rw [hb5]
  exact decide_eq_false (by omega)
 apply x_v rfl rfl trivial
 apply x_nil
 have HB : Ob w a := ⟨by omega, H4, H5⟩
 have hn0 : 0 ≤ w.getD (a + 1) 0 := H4.2.2.1
 refine tV ?_
 apply o_ldh rfl rfl (H0.at hbj hKb) (fun h => by omega) rfl
 refine tV ?_
 apply o_val (v := .ptr j (0 + ((a : Int)).toNat * 1)) rfl rfl ⟨rfl, by omega, by omega⟩
 apply o_st1 rfl rfl rfl rfl rfl H0.1 (show 0 + ((a : Int)).toNat * 1 < _ by rw [List.length_map, startsOf_len]; omega)
 have H6 := H0.set (cs' := (startsOf w.length (l ++ [a])).map AV.bool)
 rw [show ((startsOf w.length l).map AV.bool).set (0 + ((a : Int)).toNat * 1) (.bool true) = (startsOf w.length (l ++ [a])).map AV.bool by
  rw [startsOf_set, List.map_set]
  congr 1
  omega]
 have hx6 : Ext h (upd h4 j (some (.cells ((startsOf w.length (l ++ [a])).map AV.bool)))) := H6.ext hhK
 generalize upd h4 j (some (.cells ((startsOf w.length (l ++ [a])).map AV.bool))) = h6 at H6 hx6 ⊢
 refine tV ?_
 apply o_as (w := I ((a + 1 : Nat) : Int)) rfl rfl trivial (by rw [w64 (by omega) (by omega)]; rfl)
 apply o_iaS rfl rfl rfl (hv.mono RN.mono hx6) (show a + 1 < _ by omega)
 intro p c hp hc _
 apply o_ldG rfl rfl hp (.one hc) (fun _ => .refl)
 apply o_as (w := I (w.getD (a + 1) 0)) rfl rfl trivial (by have h4 := h3 (a + 1); unfold I32 at h4; rw [hgd _ (by omega)] at h4 ⊢; rw [w64 (by omega) (by omega)])
 apply o_as (w := I (2 + w.getD (a + 1) 0)) rfl rfl trivial (by rw [w64 (by omega) (by omega)])
 apply o_as (w := I ((a + 2 + (w.getD (a + 1) 0).toNat : Nat) : Int)) rfl rfl trivial (by rw [w64 (by omega) (by omega)]; congr 1; omega)
 refine tW ?_
 refine ⟨(a + 2 + (w.getD (a + 1) 0).toNat, l ++ [a]), by simp only; omega, tU, rfl, H6, scan_step hs H2 HB⟩
end Go.Proofs
end
section
open Go Go.Abs Go.Proofs.SlimCode Go.Img
namespace Go.Img
def RefP (l : List Nat) (x : Int) : Prop := x = 0 ∨ (1 ≤ x ∧ (x - 1).toNat ∈ l)
end Go.Img
set_option maxRecDepth 100000
namespace Go.Proofs
theorem sl_kill {α : Type} {R : Heap → List AV → α → Prop} {s : Nat} {h : Heap} {v : AV} {l : List α} {S : List Nat} (hR : ∀ h h' c a, R h c a → R h' c a) (H : Sl R s h v l) (hS : ∀ i ∈ slIds v, i ∉ S) : Sl R s (killL S h) v l := by
 obtain ⟨cs, c1, c2⟩ := H
 refine ⟨cs, ?_, c2.imp fun c a => hR _ _ c a⟩
 generalize l.length = n at *
 cases c1 with
 | nil => exact .nil
 | tsl _ _ hl => exact .tsl _ _ hl
 | sl id off _ os _ hi hc => exact .sl id off _ os _ (by rw [kill_out (hS id (by simp [slIds]))]; exact hi) hc
theorem HObj.up {g h h' : Heap} {b : Nat} {w : List Int} {l : List Nat} (H : HObj g h b w l) (hx : Ext h h') : HObj g h' b w l := by
 obtain ⟨v1, v2, h1, h2, h3, h4, h5, h6⟩ := H
 exact ⟨v1, v2, hx _ _ h1, h2, h3.mono RN.mono hx, h4.mono RB.mono hx, h5, h6⟩
theorem HObj.kill {g h : Heap} {b : Nat} {w : List Int} {l : List Nat} {S : List Nat} (H : HObj g h b w l) (hS : ∀ id ∈ S, g id ≠ none) : HObj g (killL S h) b w l := by
 obtain ⟨v1, v2, h1, h2, h3, h4, h5, h6⟩ := H
 exact ⟨v1, v2, by rw [kill_out (fun hi => hS b hi h2)]; exact h1, h2, sl_kill (fun _ _ _ _ h => h) h3 (fun i hi hs => hS i hs (h5 i hi)), sl_kill (fun _ _ _ _ h => h) h4 (fun i hi hs => hS i hs (h6 i hi)), h5, h6⟩
theorem p134 {g h : Heap} {b : Nat} {w : List Int} {l : List Nat} {a : Int} (H : HObj g h b w l) (hl : ∀ x ∈ l, Ob w x) (_hw : Len w) : Looks Tryz.prog ann 134 [.ptr b 0, I a] h (.bool (BP (0 ≤ a ∧ a.toNat ∈ l))) := by
 obtain ⟨v1, v2, hb, hg, s1, s2, i1, i2⟩ := H
 have hx : Ext h h := .refl
 refine s_look_of rfl Tryz.func134 (frc (by with_unfolding_all rfl)) rfl ?_
 refine tV ?_
 refine oI (0 ≤ a) (fun H1 => ?_) (fun H1 => ?_)
 rotate_left
 ·refine tW ?_
  exact noB rfl (fun h => H1 h.1) hx (by simp)
 refine tV ?_
 apply o_ldh rfl rfl hb (fun h => by omega) rfl
 refine tV ?_
 apply o_lenS rfl rfl s1
 refine tV ?_
 refine oI (a < w.length) (fun H2 => ?_) (fun H2 => ?_)
 rotate_left
 ·refine tW ?_
  exact noB rfl (fun h => by have := (hl _ h.2).1; omega) hx (by simp)
 refine tV ?_
 apply o_ldh rfl rfl hb (fun h => by omega) rfl
 refine tV ?_
 apply o_iaS (z := a.toNat) rfl rfl (by rw [Int.toNat_of_nonneg H1]; rfl) s2 (by rw [startsOf_len]; omega)
 intro p c hp hc _
 refine tV ?_
 apply o_ldG rfl rfl hp (.one hc) (fun h => absurd h (by omega))
 rw [startsOf_at]
 by_cases H3 : a.toNat ∈ l
 rotate_left
 ·rw [decide_eq_false H3]
  refine tW ?_
  exact noB rfl (fun h => H3 h.2) hx (by simp)
 rw [decide_eq_true H3]
 refine tW ?_
 exact yesB rfl ⟨H1, H3⟩ hx (by simp)
theorem p135 {g h : Heap} {b : Nat} {w : List Int} {l : List Nat} (H : HObj g h b w l) : Looks Tryz.prog ann 135 [.ptr b 0] h (I w.length) := by
 obtain ⟨v1, v2, hb, hg, s1, s2, i1, i2⟩ := H
 refine s_look_of rfl Tryz.func135 (frc (by with_unfolding_all rfl)) rfl ?_
 refine tW ?_
 apply o_ldh rfl rfl hb (fun h => by omega) rfl
 refine tV ?_
 apply o_lenS rfl rfl s1
 refine tW ?_
 exact lret_ret (vs := [I w.length]) rfl rfl rfl .refl (by simp)
theorem p136 {g h : Heap} {b : Nat} {w : List Int} {l : List Nat} {a : Nat} (H : HObj g h b w l) (hl : ∀ x ∈ l, Ob w x) (hw : Len w) (h32 : ∀ x ∈ w, I32 x) (ha : a ∈ l) : Looks Tryz.prog ann 136 [.ptr b 0, I a] h (I (w.getD (a + 1) 0)) := by
 have HH := H
 obtain ⟨v1, v2, hb, hg, s1, s2, i1, i2⟩ := H
 have hwl := hw
 unfold Len at hwl
 have ha1 := (hl a ha).1
 have hx : Ext h h := .refl
 refine s_look_of rfl Tryz.func136 (frc (by with_unfolding_all rfl)) rfl ?_
 refine tV ?_
 apply o_hcall rfl rfl rfl rfl (p134 HH hl hw).go
 rintro _ k1 ⟨rfl, hy⟩
 replace hx := hx.trans hy
 clear hy
 rw [BP_true (P := 0 ≤ (a : Int) ∧ (a : Int).toNat ∈ l) ⟨by omega, by simpa using ha⟩]
 refine tW ?_
 apply o_ldh rfl rfl (hx _ _ hb) (fun h => by omega) rfl
 refine tV ?_
 apply o_as (w := I ((a + 1 : Nat) : Int)) rfl rfl trivial (by rw [w64 (by omega) (by omega)]; rfl)
 apply o_iaS rfl rfl rfl (s1.mono RN.mono hx) (show a + 1 < w.length by omega)
 intro p c hp hc _
 apply o_ldG rfl rfl hp (.one hc) (fun _ => .refl)
 have hgd : w.getD (a + 1) 0 = w[a + 1] := by rw [List.getD_eq_getElem?_getD, List.getElem?_eq_getElem (by omega)]; rfl
 have h4 := h32 _ (List.getElem_mem (show a + 1 < w.length by omega))
 unfold I32 at h4
 rw [hgd]
 apply o_as (w := I w[a + 1]) rfl rfl trivial (by rw [w64 (by omega) (by omega)])
 refine tW ?_
 exact lret_ret (vs := [I w[a + 1]]) rfl rfl rfl hx (by simp)
theorem p137 {g h : Heap} {b : Nat} {w : List Int} {l : List Nat} {a : Nat} (H : HObj g h b w l) (hl : ∀ x ∈ l, Ob w x) (hw : Len w) (h32 : ∀ x ∈ w, I32 x) (ha : a ∈ l) : Looks Tryz.prog ann 137 [.ptr b 0, I a] h (I (w.getD (a) 0)) := by
 have HH := H
 obtain ⟨v1, v2, hb, hg, s1, s2, i1, i2⟩ := H
 have hwl := hw
 unfold Len at hwl
 have ha1 := (hl a ha).1
 have hx : Ext h h := .refl
 refine s_look_of rfl Tryz.func137 (frc (by with_unfolding_all rfl)) rfl ?_
 refine tV ?_
 apply o_hcall rfl rfl rfl rfl (p134 HH hl hw).go
 rintro _ k1 ⟨rfl, hy⟩
 replace hx := hx.trans hy
 clear hy
 rw [BP_true (P := 0 ≤ (a : Int) ∧ (a : Int).toNat ∈ l) ⟨by omega, by simpa using ha⟩]
 refine tW ?_
 apply o_ldh rfl rfl (hx _ _ hb) (fun h => by omega) rfl
 refine tV ?_
 apply o_iaS rfl rfl rfl (s1.mono RN.mono hx) (show a < w.length by omega)
 intro p c hp hc _
 apply o_ldG rfl rfl hp (.one hc) (fun _ => .refl)
 have hgd : w.getD (a) 0 = w[a] := by rw [List.getD_eq_getElem?_getD, List.getElem?_eq_getElem (by omega)]; rfl
 have h4 := h32 _ (List.getElem_mem (show a < w.length by omega))
 unfold I32 at h4
 rw [hgd]
 apply o_as (w := I w[a]) rfl rfl trivial (by rw [w64 (by omega) (by omega)])
 refine tW ?_
 exact lret_ret (vs := [I w[a]]) rfl rfl rfl hx (by simp)
theorem p133 {g h : Heap} {b c : Nat} {w : List Int} {l : List Nat} {x : Int} (H : HObj g h b w l) (hc : h c = some (.cells [.ptr b 0])) (hl : ∀ x ∈ l, Ob w x) (hw : Len w) (h32 : I32 x) : Looks Tryz.prog ann 133 [.int .i32 x, .ptr c 0] h (.bool (BP (RefP l x))) := by
 unfold I32 at h32
 have hx : Ext h h := .refl
 refine s_look_of rfl Tryz.func133 (frc (by with_unfolding_all rfl)) rfl ?_
 refine tV ?_
 refine oI (x = 0) (fun H1 => ?_) (fun H1 => ?_)
 ·refine tW ?_
  exact yesB rfl (.inl H1) hx (by simp)
 refine tV ?_
 apply o_ldh rfl rfl hc (fun h => by omega) rfl
 refine tV ?_
 apply o_as (w := I x) rfl rfl trivial (by rw [w64 (by omega) (by omega)])
 refine tV ?_
 apply o_as (w := I (x - 1)) rfl rfl trivial (by rw [w64 (by omega) (by omega)])
 refine tV ?_
 apply o_hcall rfl rfl rfl rfl (p134 H hl hw).go
 rintro _ k1 ⟨rfl, hy⟩
 replace hx := hx.trans hy
 clear hy
 by_cases H2 : 0 ≤ x - 1 ∧ (x - 1).toNat ∈ l
 rotate_left
 ·rw [BP_false H2]
  refine tW ?_
  exact noB rfl (fun h => h.elim H1 fun h => H2 ⟨by omega, h.2⟩) hx (by simp)
 rw [BP_true H2]
 refine tW ?_
 exact yesB rfl (.inr ⟨by omega, H2.2⟩) hx (by simp)
theorem p138 {g h : Heap} {b b1 b3 b5 : Nat} {c : List AV} {m : Image} {l : List Nat} {i : Nat} (H : HObj g h b m.words l) (hc : RImg h c m) (hw : m.WF) (h1 : h b1 = some (.cells c)) (h3 : h b3 = some (.cells [.ptr b 0])) (h5 : h b5 = some (.cells [.fn 133 [] [.ptr b3 0]])) (hl : ∀ x ∈ l, Ob m.words x) (hi : i < m.words.length) : Looks Tryz.prog ann 138 [I i, .ptr b5 0, .ptr b1 0] h (.bool (BP (RefP l (m.words.getD i 0)))) := by
 obtain ⟨vc, vm, vg, vw, vr, vs, vf, rfl, v1, v2, v3, v4, v5, v6, v7⟩ := hc
 have hgd : m.words.getD i 0 = m.words[i] := by rw [List.getD_eq_getElem?_getD, List.getElem?_eq_getElem hi]; rfl
 rw [hgd]
 refine s_look_of rfl Tryz.func138 (frc (by with_unfolding_all rfl)) rfl ?_
 refine tX ?_
 refine tv ?_
 refine tX ?_
 apply s_regX (b5 :: b1 :: slIds vw) [.B, .A, .A, .B, .A, .A, .B, .D, .D] (by
  intro k hk
  rcases List.mem_cons.1 hk with rfl | hk
  ·rw [h5]; simp
  rcases List.mem_cons.1 hk with rfl | hk
  ·rw [h1]; simp
  obtain ⟨cs, c1, _⟩ := v4
  exact c1.live k hk) rfl
 apply x_ld rfl rfl h5 (by simp) rfl
 apply x_v rfl rfl trivial
 apply x_v rfl rfl trivial
 apply x_ld rfl rfl h1 (by simp) rfl
 apply x_v rfl rfl trivial
 apply x_iaA rfl rfl rfl v4 hi (fun k hk => by simp [hk])
 intro p c hp hpi hc _
 apply x_ldB rfl rfl hp hpi (.one hc)
 refine x_D (R := fun E' bx' k => E' = (12, .bool (BP (RefP l m.words[i]))) :: _ ∧ bx' = [] ∧ Ext h k) (o_hcall rfl rfl rfl rfl (p133 H h3 hl hw.words.1 (hw.words.2 _ (List.getElem_mem hi))).go fun v k q => o_nil (by obtain ⟨rfl, q⟩ := q; exact ⟨rfl, rfl, rfl, q⟩)) ?_
 rintro _ _ k1 ⟨rfl, rfl, hx⟩
 refine ⟨fun k hk => ?_, ?_⟩
 ·rcases List.mem_cons.1 hk with rfl | hk
  ·rw [hx _ _ h5]; simp
  rcases List.mem_cons.1 hk with rfl | hk
  ·rw [hx _ _ h1]; simp
  obtain ⟨cs, c1, _⟩ := v4
  exact (c1.mono hx).live k hk
 refine x_D (R := fun E' bx' k => E' = (4, .bool (BP (RefP l m.words[i]))) :: _ ∧ bx' = [] ∧ k = k1) (o_val rfl rfl trivial (o_nil ⟨rfl, rfl, rfl, rfl⟩)) ?_
 rintro _ _ _ ⟨rfl, rfl, rfl⟩
 refine ⟨fun k hk => ?_, ?_⟩
 ·rcases List.mem_cons.1 hk with rfl | hk
  ·rw [hx _ _ h5]; simp
  rcases List.mem_cons.1 hk with rfl | hk
  ·rw [hx _ _ h1]; simp
  obtain ⟨cs, c1, _⟩ := v4
  exact (c1.mono hx).live k hk
 apply x_nil
 refine tW ?_
 exact eqB rfl rfl hx (by simp)
end Go.Proofs
end
