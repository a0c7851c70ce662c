import Derived.Test.YtmnnmgfjlokmkaaGreatAbsOpsD
open Go.RowKit (Below)
namespace Go.Abs
section
variable {P : Program} {B : Nat} {w0 : Anchor} {w : World} {μ : Mu} {M : Mem} {h h' : Heap} {n n' : Nat} {lg : Log}
def OptR (μ : Mu) (M : Mem) : Option AV → Option Value → Prop
 | none, none => True
 | some a, some v => VR μ M a v
 | _, _ => False
theorem evo_rel {ev : Operand → Option AV} {ρ : Operand → Value} (hev : EvR μ M ev ρ) {x : Option Operand} {r : Option AV} (e : evo ev x = some r) : OptR μ M r (x.map ρ) := by
 cases x with
 | none => simp [evo] at e; subst e; trivial
 | some x =>
  simp only [evo] at e
  obtain ⟨v, hv, rfl⟩ := mapo e
  exact hev x v hv
theorem intIx_run {a : AV} {v : Value} {i : Int} (hr : VR μ M a v) (e : intIx a = some i) : ∃ k, v = .int k i := by
 cases hr <;> simp [intIx] at e
 subst e
 exact ⟨_, rfl⟩
theorem bounds_sim {isSlice : Bool} {len cap l r : Nat} {lo hi : Option AV} {lov hiv : Option Value} (hlo : OptR μ M lo lov) (hhi : OptR μ M hi hiv) (hc : len ≤ cap) (e : boundsA len lo hi = some (l, r)) :
  (Instr.sliceBounds isSlice len cap lov hiv none).run P w = .ok (l, r, cap) w ∧ l ≤ r ∧ r ≤ len := by
 unfold boundsA at e
 cases hi with
 | none =>
  cases hiv with
  | some _ => cases hhi
  | none =>
   cases lo with
   | none =>
    cases lov with
    | some _ => cases hlo
    | none =>
     simp at e
     obtain ⟨rfl, rfl⟩ := e
     exact ⟨by simp [Instr.sliceBounds], by omega, Nat.le_refl _⟩
   | some a =>
    cases lov with
    | none => cases hlo
    | some v =>
     simp only at e
     cases hi : intIx a with
     | none => rw [hi] at e; cases e
     | some i =>
      rw [hi] at e
      simp only at e
      split at e
      ·rename_i hb
       simp only [Option.some.injEq, Prod.mk.injEq] at e
       obtain ⟨rfl, rfl⟩ := e
       obtain ⟨k, rfl⟩ := intIx_run hlo hi
       exact ⟨by simp [Instr.sliceBounds, Instr.sliceBound, asIntOf, hb], by omega, Nat.le_refl _⟩
      ·cases e
 | some b =>
  cases hiv with
  | none => cases hhi
  | some u =>
   simp only at e
   cases hi : intIx b with
   | none => rw [hi] at e; cases e
   | some j =>
    rw [hi] at e
    simp only at e
    split at e
    ·rename_i hb
     obtain ⟨k, rfl⟩ := intIx_run hhi hi
     have hcap : j ≤ (cap : Int) := by omega
     cases lo with
     | none =>
      cases lov with
      | some _ => cases hlo
      | none =>
       simp only [Option.some.injEq, Prod.mk.injEq] at e
       obtain ⟨rfl, rfl⟩ := e
       exact ⟨by simp [Instr.sliceBounds, Instr.sliceBound, asIntOf, hb, hcap], by omega, by omega⟩
     | some a =>
      cases lov with
      | none => cases hlo
      | some v =>
       simp only at e
       cases hi2 : intIx a with
       | none => rw [hi2] at e; cases e
       | some i =>
        rw [hi2] at e
        simp only at e
        split at e
        ·rename_i hb2
         simp only [Option.some.injEq, Prod.mk.injEq] at e
         obtain ⟨rfl, rfl⟩ := e
         obtain ⟨k2, rfl⟩ := intIx_run hlo hi2
         have h3 : 0 ≤ j := hb.1
         have h4 : i ≤ j := hb2.2
         have h5 : 0 ≤ i := hb2.1
         have hmax : max j 0 = j := by omega
         exact ⟨by simp [Instr.sliceBounds, Instr.sliceBound, asIntOf, h3, hcap, h4, h5, hmax], by omega, by omega⟩
        ·cases e
    ·cases e
theorem sliceA_sim (sr : SR B w0 μ M h w) {t : TypeId} {x v : AV} {xv : Value} {lo hi : Option AV} {lov hiv : Option Value} (hx : VR μ M x xv) (hlo : OptR μ M lo lov) (hhi : OptR μ M hi hiv)
  (e : sliceA P t x lo hi h n = some (v, h', n', lg)) : h' = h ∧ n' = n ∧ ∃ cv, (Instr.sliceAt t xv lov hiv none).run P w = .ok cv w ∧ VR μ M v cv := by
 obtain ⟨m, hm⟩ : ∃ m, m = sliceA P t x lo hi := ⟨_, rfl⟩
 rw [← hm] at e
 unfold sliceA at hm
 split at hm
 ·rename_i nn el id off hu
  subst hm
  obtain ⟨o, _, _, _, _, e1, f1, _⟩ := bind_some e
  obtain ⟨ho, rfl, rfl⟩ := get_some e1
  cases o with
  | map es => exact (fail_some f1).elim
  | cells cs =>
   cases hs : szOf P el with
   | none => rw [hs] at f1; exact (fail_some f1).elim
   | some s =>
    rw [hs] at f1
    cases hb : boundsA nn lo hi with
    | none => rw [hb] at f1; exact (fail_some f1).elim
    | some lr =>
     obtain ⟨l, r⟩ := lr
     rw [hb] at f1
     simp only at f1
     split at f1
     ·rename_i hle
      obtain ⟨rfl, rfl, rfl⟩ := pure_some f1
      cases hx with
      | ptr _ _ rg hr =>
       obtain ⟨hbr, hlr, hrl⟩ := bounds_sim (P := P) (w := w) (isSlice := false) hlo hhi (Nat.le_refl nn) hb
       obtain ⟨rg', g1, _, _, g4, _⟩ := sr.cellsOf ho
       rw [hr] at g1
       cases g1
       refine ⟨rfl, rfl, .slice (some (if nn = l then (⟨rg.b, rg.o + off, none⟩ : Addr) else (⟨rg.b, rg.o + off, none⟩ : Addr).add (l * s))) (r - l) (nn - l), ?_, ?_⟩
       ·simp only [Instr.sliceAt, Sem.run_bind, run_underlying hu, Result.andThen_ok, Instr.sureAddr, Sem.run_pure, hbr, run_sizeOf' hs]
       ·refine .sl id (off + l * s) (r - l) s (nn - l) rg _ hr (by omega) (fun hpos => ?_)
        rw [if_neg (by omega), add_none]
        refine ⟨by simp [Nat.add_assoc], ?_⟩
        rw [Nat.sub_mul]
        have : l * s ≤ nn * s := Nat.mul_le_mul_right _ (by omega)
        omega
     ·exact (fail_some f1).elim
 ·rename_i s hu
  subst hm
  cases hb : boundsA s.length lo hi with
  | none => rw [hb] at e; exact (fail_some e).elim
  | some lr =>
   obtain ⟨l, r⟩ := lr
   rw [hb] at e
   simp only at e
   obtain ⟨rfl, rfl, rfl⟩ := pure_some e
   have hxv := hx.str_inv
   subst hxv
   have hsz : (⟨s.toArray⟩ : ByteArray).size = s.length := by simp [ByteArray.size]
   obtain ⟨hbr, hlr, hrl⟩ := bounds_sim (P := P) (w := w) (isSlice := false) hlo hhi (Nat.le_refl s.length) hb
   refine ⟨rfl, rfl, .string ((⟨s.toArray⟩ : ByteArray).extract l r), ?_, ?_⟩
   ·simp only [Instr.sliceAt, Sem.run_bind, run_underlying hu, Result.andThen_ok, Instr.slice, hsz]
    simp [hbr]
   ·have := VR.str (μ := μ) (M := M) ((⟨s.toArray⟩ : ByteArray).extract l r)
    simpa [List.drop_take] using this
 ·rename_i el hu
  subst hm
  cases hs : szOf P el with
  | none => rw [hs] at e; exact (fail_some e).elim
  | some s =>
   rw [hs] at e
   cases hb : boundsA 0 lo hi with
   | none => rw [hb] at e; exact (fail_some e).elim
   | some lr =>
    obtain ⟨l, r⟩ := lr
    rw [hb] at e
    simp only at e
    obtain ⟨rfl, rfl, rfl⟩ := pure_some e
    cases hx
    obtain ⟨hbr, hlr, hrl⟩ := bounds_sim (P := P) (w := w) (isSlice := true) hlo hhi (Nat.le_refl 0) hb
    refine ⟨rfl, rfl, .slice none 0 0, ?_, .nilsl⟩
    have : l = 0 := by omega
    subst this
    have : r = 0 := by omega
    subst this
    simp only [Instr.sliceAt, Sem.run_bind, run_underlying hu, Result.andThen_ok, Instr.slice, hbr, run_sizeOf' hs, Sem.run_pure]
    simp
 ·rename_i el id off len sz hu
  subst hm
  cases hb : boundsA len lo hi with
  | none => rw [hb] at e; exact (fail_some e).elim
  | some lr =>
   obtain ⟨l, r⟩ := lr
   rw [hb] at e
   simp only at e
   split at e
   ·rename_i hs
    obtain ⟨rfl, rfl, rfl⟩ := pure_some e
    cases hx with
    | sl _ _ _ _ cap rg a hr hlc hcap =>
     obtain ⟨hbr, hlr, hrl⟩ := bounds_sim (P := P) (w := w) (isSlice := true) hlo hhi hlc hb
     refine ⟨rfl, rfl, .slice (some (if cap = l then a else a.add (l * sz))) (r - l) (cap - l), ?_, ?_⟩
     ·simp only [Instr.sliceAt, Sem.run_bind, run_underlying hu, Result.andThen_ok, Instr.slice, hbr, run_sizeOf' hs, Sem.run_pure]
      by_cases hcl : cap = l <;> simp [hcl]
     ·refine .sl id (off + l * sz) (r - l) sz (cap - l) rg _ hr (by omega) (fun hpos => ?_)
      obtain ⟨rfl, hext⟩ := hcap (by omega)
      rw [if_neg (by omega), add_none]
      refine ⟨by simp [Nat.add_assoc], ?_⟩
      rw [Nat.sub_mul]
      have : l * sz ≤ cap * sz := Nat.mul_le_mul_right _ (by omega)
      omega
   ·exact (fail_some e).elim
 ·rename_i el cs len hu
  subst hm
  cases hs : szOf P el with
  | none => rw [hs] at e; exact (fail_some e).elim
  | some s =>
   rw [hs] at e
   cases hb : boundsA len lo hi with
   | none => rw [hb] at e; exact (fail_some e).elim
   | some lr =>
    obtain ⟨l, r⟩ := lr
    rw [hb] at e
    simp only at e
    obtain ⟨rfl, rfl, rfl⟩ := pure_some e
    cases hx with
    | tsl _ _ cap a vs hlc hsp hm hr =>
     obtain ⟨hbr, hlr, hrl⟩ := bounds_sim (P := P) (w := w) (isSlice := true) hlo hhi hlc hb
     refine ⟨rfl, rfl, .slice (some (if cap = l then a else a.add (l * s))) (r - l) (cap - l), ?_, ?_⟩
     ·simp only [Instr.sliceAt, Sem.run_bind, run_underlying hu, Result.andThen_ok, Instr.slice, hbr, run_sizeOf' hs, Sem.run_pure]
      by_cases hcl : cap = l <;> simp [hcl]
     ·have hget : ∀ i c, ((cs.take (r * s)).drop (l * s))[i]? = some c → cs[l * s + i]? = some c ∧ ¬ cap = l ∧ a.spot = none := by
       intro i c hi
       rw [List.getElem?_drop, List.getElem?_take] at hi
       split at hi
       ·rename_i hlt
        refine ⟨hi, fun hcl => ?_, hsp (.inr (by intro hc; subst hc; simp at hi))⟩
        have : r = l := by omega
        subst this
        omega
       ·cases hi
      refine .tsl _ (r - l) (cap - l) _ (fun i => vs (l * s + i)) (by omega) ?_ ?_ ?_
      ·intro hne
       have key : ¬ cap = l ∧ a.spot = none := by
        rcases hne with hne | hne
        ·exact ⟨by omega, hsp (.inl (by omega))⟩
        ·cases hd : (cs.take (r * s)).drop (l * s) with
         | nil => exact absurd hd hne
         | cons c tl => exact (hget 0 c (by rw [hd]; rfl)).2
       rw [if_neg key.1]
       unfold Addr.add
       split <;> simp [key.2]
      ·intro i c hi
       obtain ⟨h1, h2, h3⟩ := hget i c hi
       rw [if_neg h2]
       obtain ⟨ab, ao, asp⟩ := a
       simp only at h3
       subst h3
       rw [add_none]
       simp only [Nat.add_assoc]
       exact hm _ c h1
      ·intro i c hi
       exact hr _ c (hget i c hi).1
 ·subst hm
  exact (fail_some e).elim
theorem addA_sim {p v : AV} {pv : Value} {k : Nat} (hp : VR μ M p pv) (e : addA p k = some v) : ∃ b o, pv = .pointer (some ⟨b, o, none⟩) ∧ VR μ M v (.pointer (some ⟨b, o + k, none⟩)) := by
 cases hp <;> simp only [addA, reduceCtorEq, Option.some.injEq] at e
 ·rename_i id off r hr
  subst e
  exact ⟨_, _, rfl, by rw [Nat.add_assoc]; exact .ptr _ _ _ hr⟩
 ·rename_i cs off b o vs h1 h2
  subst e
  exact ⟨_, _, rfl, by rw [Nat.add_assoc]; exact .tptr _ _ _ _ vs h1 h2⟩
theorem fieldAddrA_sim {t : TypeId} {p v : AV} {pv : Value} {i : Nat} (hp : VR μ M p pv) (e : fieldAddrA P t p i = some v) : ∃ cv, (Instr.fieldAt t pv i).run P w = .ok cv w ∧ VR μ M v cv := by
 unfold fieldAddrA at e
 split at e
 ·rename_i fs hu
  split at e
  ·rename_i f hf
   split at e
   ·rename_i k hs
    obtain ⟨b, o, rfl, hr⟩ := addA_sim hp e
    refine ⟨_, ?_, hr⟩
    simp [Instr.fieldAt, run_underlying hu, hf, Instr.sureAddr, fieldPlace, run_sizeOf' hs, add_none]
   ·cases e
  ·cases e
 ·cases e
theorem indexAddrA_sim {t : TypeId} {x ix v : AV} {xv iv : Value} (hx : VR μ M x xv) (hi : VR μ M ix iv) (e : indexAddrA P t x ix = some v) : ∃ cv, (Instr.indexAt t xv iv).run P w = .ok cv w ∧ VR μ M v cv := by
 unfold indexAddrA at e
 split at e
 ·cases e
 ·rename_i i hix
  obtain ⟨k, rfl⟩ := intIx_run hi hix
  split at e
  ·rename_i len el hu
   split at e
   ·rename_i s hs
    split at e
    ·rename_i hb
     obtain ⟨b, o, rfl, hr⟩ := addA_sim hx e
     refine ⟨_, ?_, hr⟩
     simp [Instr.indexAt, asIntOf, run_underlying hu, Instr.sureAddr, hb, run_sizeOf' hs, add_none]
    ·cases e
   ·cases e
  ·rename_i el id off len sz hu
   split at e
   ·rename_i hb
    obtain ⟨hs, hb1, hb2⟩ := hb
    simp only [Option.some.injEq] at e
    subst e
    cases hx with
    | sl _ _ _ _ cap rg a hr hlc hcap =>
     obtain ⟨rfl, _⟩ := hcap (by omega)
     refine ⟨.pointer (some ⟨rg.b, rg.o + (off + i.toNat * sz), none⟩), ?_, .ptr _ _ _ hr⟩
     simp [Instr.indexAt, asIntOf, run_underlying hu, hb1, hb2, run_sizeOf' hs, add_none, Nat.add_assoc]
   ·cases e
  ·rename_i el cs len hu
   split at e
   ·rename_i s hs
    split at e
    ·rename_i hb
     obtain ⟨hb1, hb2⟩ := hb
     simp only [Option.some.injEq] at e
     subst e
     cases hx with
     | tsl _ _ cap a vs hlc hsp hm hr =>
      have hsp' := hsp (.inl (by omega))
      obtain ⟨ab, ao, asp⟩ := a
      simp only at hsp' hm
      subst hsp'
      refine ⟨.pointer (some ⟨ab, ao + i.toNat * s, none⟩), ?_, .tptr _ _ _ _ vs hm hr⟩
      simp [Instr.indexAt, asIntOf, run_underlying hu, hb1, hb2, run_sizeOf' hs, add_none]
    ·cases e
   ·cases e
  ·cases e
end
end Go.Abs
