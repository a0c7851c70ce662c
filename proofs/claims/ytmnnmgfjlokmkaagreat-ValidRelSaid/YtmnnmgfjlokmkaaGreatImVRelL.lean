import Derived.Test.YtmnnmgfjlokmkaaGreatAbsTac
import Derived.Test.YtmnnmgfjlokmkaaGreatImVal21
import Derived.Test.YtmnnmgfjlokmkaaGreatAbsLs
import Derived.Test.YtmnnmgfjlokmkaaGreatImCrc
import Derived.Test.YtmnnmgfjlokmkaaGreatImCut
import Derived.Test.YtmnnmgfjlokmkaaGreatAbsLaw
import Derived.Test.YtmnnmgfjlokmkaaGreatAbsTy
section
open Go Go.Abs Go.Proofs.SlimCode Go.Img
set_option maxRecDepth 100000
namespace Go.Proofs
theorem sl_srcs {k : IntKind} {h : Heap} {v : AV} {l : List Int} (H : Sl (RN k) 1 h v l) : VSl h 1 v (nums k l) l.length := by
 obtain ⟨cs, h1, h2⟩ := H
 obtain rfl : cs = nums k l := Chunks.map h2
 exact h1
section
variable {P : Program} {A : Ann} {f nt : Nat} {E : Env} {bx : List Nat} {h : Heap} {Q : AX → Env → List Nat → Heap → Prop} {cls : List Cl} {S : List Nat}
theorem x_iaW {α : Type} {R : Heap → List AV → α → Prop} {l : List α} {d s : Nat} {x i : SX} {r : List SO} {v : AV} {k : IntKind} {z : Nat} (hlt : (decide (d < nt)) = true) (hx : ev (lk E) x = some v) (hi : ev (lk E) i = some (.int k (z : Int))) (hv : ∀ h, Sl R s h v l) (hz : z < l.length)
  (H : ∀ p c, VPtr h p c → R h c l[z] → c.length = s → SOpsX P A f nt S cls r ((d, p) :: E) bx h Q) : SOpsX P A f nt S (.A :: cls) (⟨some d, none, .ia x i none s⟩ :: r) E bx h Q := by
 obtain ⟨cs, h1, h2⟩ := hv h
 obtain ⟨g1, g2⟩ := h2.get hz
 have hl := h1.len
 have hb : z * s + s ≤ l.length * s := by
  have : (z + 1) * s ≤ l.length * s := Nat.mul_le_mul_right s (by omega)
  rw [Nat.add_mul] at this
  omega
 have hsl : sliceL cs (z * s) s = some ((cs.drop (z * s)).take s) := sliceL_of (by omega)
 obtain ⟨a, ha⟩ : ∃ a, a = l[z] := ⟨_, rfl⟩
 rw [← ha] at H g1
 clear ha
 generalize l.length = n at h1 hb hl hz
 have hzi : (0 : Int) ≤ (z : Int) ∧ (z : Int) < n := by omega
 cases h1 with
 | nil => omega
 | tsl _ _ _ => exact x_v (p := (0 : Int) ≤ (z : Int) ∧ (z : Int) < n) (v := .tptr cs (z * s)) hlt (by simp only [sv, hx, hi, Int.toNat_natCast]) hzi (H _ _ (.t _ _ _ (by rw [g2]; exact hsl)) g1 g2)
 | sl id off _ os _ hid hc => exact x_v (p := s = s ∧ (0 : Int) ≤ (z : Int) ∧ (z : Int) < n) (v := .ptr id (off + z * s)) hlt (by simp only [sv, hx, hi, Int.toNat_natCast]) ⟨rfl, hzi⟩ (H _ _ (.p _ _ os _ hid (by rw [g2]; exact sliceL_sub hc hsl)) g1 g2)
end
section
variable {P : Program} {A : Ann} {f nt q : Nat} {E : Env} {bx : List Nat} {h h0 : Heap} {Q : AX → Env → List Nat → Heap → Prop}
theorem o_sltN {k : IntKind} {d : Nat} {x y : SX} {r : List SO} {v : AV} {l : List Int} {b : Nat} (hlt : (decide (d < nt)) = true) (hx : ev (lk E) x = some v) (hy : ev (lk E) y = some (I b)) (hv : ∀ h, Sl (RN k) 1 h v l) (h3 : b ≤ l.length)
  (H : ∀ w, (∀ h, Sl (RN k) 1 h w (l.take b)) → SOps P A f nt h0 (q - 1) r ((d, w) :: E) bx h Q) : SOps P A f nt h0 q (⟨some d, none, .slt x none (some y) 1⟩ :: r) E bx h Q := by
 have g := sl_srcs (hv fun _ => none)
 obtain ⟨cs, hcs⟩ : ∃ cs, nums k l = cs := ⟨_, rfl⟩
 obtain ⟨n, hn⟩ : ∃ n, l.length = n := ⟨_, rfl⟩
 rw [hcs, hn] at g
 cases g with
 | nil =>
  obtain rfl : l = [] := List.length_eq_zero_iff.1 hn
  obtain rfl : b = 0 := by simpa using h3
  exact o_val (p := (0 : Int) = 0 ∧ ((0 : Nat) : Int) = 0) (v := .nil .sl) hlt (by simp only [sv, hx, evI, hy]) ⟨rfl, rfl⟩ (H _ fun h => hv h)
 | tsl _ _ hl =>
  refine o_val (p := (0 : Int) ≤ 0 ∧ (0 : Int) ≤ b ∧ (b : Int) ≤ n) (v := .tsl ((cs.take ((b : Int).toNat * 1)).drop ((0 : Int).toNat * 1)) ((b : Int).toNat - (0 : Int).toNat)) hlt (by simp only [sv, hx, evI, hy]) ⟨by omega, by omega, by omega⟩ (H _ fun h => ⟨nums k (l.take b), ?_, Chunks.of_map⟩)
  have e1 : (cs.take ((b : Int).toNat * 1)).drop ((0 : Int).toNat * 1) = nums k (l.take b) := by subst hcs; simp [nums, List.map_take]
  have e2 : (b : Int).toNat - (0 : Int).toNat = (l.take b).length := by simp; omega
  rw [e1, e2]
  exact .tsl _ _ (by simp [nums])
 | sl _ _ _ _ _ hid _ => cases hid
end
def smR (w rel : List Int) : Image := { small with words := w, rel := rel }
theorem smR_WF {w rel : List Int} (hl : w.length ≤ 100) (hw : ∀ x ∈ w, I32 x) (hr : rel.length ≤ 100) (h64 : ∀ x ∈ rel, I64 x) : (smR w rel).WF := { small_WF with
 words := ⟨by unfold Len; show w.length ≤ _; omega, hw⟩
 rel := ⟨by unfold Len; show rel.length ≤ _; omega, h64⟩ }
theorem p10 {h : Heap} {v0 v1 : AV} {l ws : List Int} (hv0 : ∀ h, Sl (RN .i64) 1 h v0 l) (hl0 : Len l) (h64 : ∀ x ∈ l, I64 x) (hv1 : ∀ h, Sl (RN .i32) 1 h v1 ws) (hl1 : Len ws) (h32 : ∀ x ∈ ws, I32 x) : HCallC Tryz.prog ann 10 [v0, v1] h fun v h' => v = .bool true ∧ Ext h h' := by
 refine (show Looks _ _ _ _ _ _ from ?_).go
 have hl := hl0
 have hlw := hl1
 unfold Len at hl hlw
 refine s_look_of rfl Tryz.func10 (frc (by with_unfolding_all rfl)) rfl ?_
 refine tA ?_
 (refine tG ?_; (with_reducible apply o_call); exact rfl; exact rfl; exact rfl; exact p24)
 refine tA ?_
 apply o_as (w := .bool false) rfl rfl trivial rfl
 refine tA ?_
 show SOps _ _ _ _ _ _ _ _ _ (hset h []) _
 apply o_callL dis_nil rfl rfl rfl rfl p27s
 rintro _ _ ⟨g0, o8, vc, vm, vg, vr, vs, vf, rfl, hx, n8, rfl, hR⟩ _
 show SOps _ _ _ _ _ _ _ _ _ (hset (upd g0 o8 (some (.cells W5c))) []) _
 have O : OSl g0 1 (.sl o8 0 5 1) (nums .i32 [0, 0, 10, 1, 1]) 5 (upd g0 o8 (some (.cells W5c))) := ⟨.upd n8, .inr ⟨o8, rfl, n8, upd_same, rfl⟩⟩
 have hone := hR.one
 refine tA ?_
 apply o_alcL dis_nil rfl
 intro b6 hD
 apply o_stL (v := .agg [vc, vm, I 0, I (-1), vg, .sl o8 0 5 1, vr, vs, vf]) (cs' := [vc, vm, I 0, I (-1), vg, .sl o8 0 5 1, vr, vs, vf]) 0 hD rfl rfl rfl rfl rfl rfl (show _ = true from hone) (splice_full rfl)
 intro hD
 refine tA ?_
 apply o_lenS rfl rfl (hv0 _)
 refine tA ?_
 apply o_as (w := I ((min l.length 6 : Nat) : Int)) rfl rfl trivial (by rw [show ((min l.length 6 : Nat) : Int) = min (l.length : Int) 6 by omega]; rfl)
 apply o_sltN rfl rfl rfl hv0 (by omega)
 intro vl hvl
 have hrl : (l.take (min l.length 6)).length ≤ 100 := by rw [List.length_take]; omega
 have hr64 : ∀ x ∈ l.take (min l.length 6), I64 x := fun x hx => h64 x (List.mem_of_mem_take hx)
 generalize l.take (min l.length 6) = rl at hvl hrl hr64
 refine tA ?_
 apply o_st1L 0 hD rfl rfl rfl rfl rfl (hvl h).one (show 0 + 6 < 9 by decide)
 intro hD
 refine tv ?_
 refine tv ?_
 refine s_join (σ := Nat × AV) (fun s => [(6, .ptr b6 0)]) (fun s h' => s.1 ≤ ws.length ∧ s.1 ≤ 3 ∧ ∃ G, h' = hset G [(b6, .cells [vc, vm, I 0, I (-1), vg, s.2, vl, vs, vf])] ∧ Dis G [(b6, .cells [vc, vm, I 0, I (-1), vg, s.2, vl, vs, vf])] ∧ OSl g0 1 s.2 (nums .i32 ([0, 0, 10, 1, 1] ++ ws.take s.1)) (5 + s.1) G) ?_ ?_
 ·refine tA ?_
  refine s_loop (fun s : Nat × AV => [(1, v1), (6, .ptr b6 0), (7, I s.1)]) (fun s h' => s.1 ≤ ws.length ∧ s.1 ≤ 3 ∧ ∃ G, h' = hset G [(b6, .cells [vc, vm, I 0, I (-1), vg, s.2, vl, vs, vf])] ∧ Dis G [(b6, .cells [vc, vm, I 0, I (-1), vg, s.2, vl, vs, vf])] ∧ OSl g0 1 s.2 (nums .i32 ([0, 0, 10, 1, 1] ++ ws.take s.1)) (5 + s.1) G) (fun s => 3 - s.1) (0, .sl o8 0 5 1) tU ⟨Nat.zero_le _, Nat.zero_le _, _, rfl, hD, O⟩ ?_
  clear hD O
  rintro ⟨k, vw⟩ _ ⟨hk, hk3, G, rfl, hD, O⟩
  simp only at hk hk3 hD O ⊢
  refine tA ?_
  apply o_lenS rfl rfl (hv1 _)
  refine oI (k < ws.length) (fun H1 => ?_) (fun H1 => ?_)
  rotate_left
  ·refine tA ?_
   exact ⟨(k, vw), tU, rfl, hk, hk3, G, rfl, hD, O⟩
  refine tA ?_
  refine oI (k < 3) (fun H2 => ?_) (fun H2 => ?_)
  rotate_left
  ·refine tA ?_
   exact ⟨(k, vw), tU, rfl, hk, hk3, G, rfl, hD, O⟩
  refine tA ?_
  refine s_regL [.A, .B, .A, .A, .A, .F, .A, .A, .A, .D] hD ?_
  refine tZ ?_
  apply x_ldL 0 hD rfl rfl rfl rfl
  refine tZ ?_
  apply x_iaW rfl rfl rfl hv1 H1
  intro p d hp hd _
  obtain rfl : d = [.int .i32 ws[k]] := hd
  apply x_ldF rfl rfl hp (.one rfl)
  apply x_v (v := .tsl [.int .i32 ws[k]] 1) rfl rfl ⟨rfl, rfl⟩
  apply x_appL hD rfl rfl rfl O rfl rfl rfl (by omega)
  intro v G2 O2 hg hD
  refine tZ ?_
  apply x_st1L 0 hD rfl rfl rfl rfl O2.ones (show 0 + 5 < 9 by decide)
  intro hD
  refine tZ ?_
  refine tA ?_
  apply o_as (w := I ((k + 1 : Nat) : Int)) rfl rfl trivial (by rw [w64 (by omega) (by omega)]; rfl)
  refine tA ?_
  refine ⟨(k + 1, v), by simp only; omega, tU, rfl, by simp only; omega, by simp only; omega, G2, rfl, hD, ?_⟩
  have e : nums .i32 ([0, 0, 10, 1, 1] ++ ws.take (k + 1)) = nums .i32 ([0, 0, 10, 1, 1] ++ ws.take k) ++ [.int .i32 ws[k]] := by
   rw [List.take_add_one, List.getElem?_eq_getElem H1]
   unfold nums
   rw [← List.append_assoc, List.map_append]
   rfl
  simp only
  rw [e]
  exact O2.weaken hg
 clear hD O
 rintro ⟨k, vw⟩ _ ⟨hk, hk3, G, rfl, hD, O⟩
 simp only at hk hk3 hD O ⊢
 have hlen : ([0, 0, 10, 1, 1] ++ ws.take k).length = 5 + k := by simp; omega
 have hwl : ∀ x ∈ ([0, 0, 10, 1, 1] : List Int) ++ ws.take k, I32 x := fun x hx => by
  rcases List.mem_append.1 hx with hx | hx
  ·unfold I32
   simp only [List.mem_cons, List.not_mem_nil, or_false] at hx
   omega
  ·exact h32 x (List.mem_of_mem_take hx)
 rw [← hlen] at O
 generalize [0, 0, 10, 1, 1] ++ ws.take k = W at O hlen hwl
 have hR' : RImg G [vc, vm, I 0, I (-1), vg, vw, vl, vs, vf] (smR W rl) := by
  obtain ⟨_, _, _, _, _, _, _, e, w1, w2, w3, _, _, w6, w7⟩ := hR
  cases e
  have hy := O.ext
  exact ⟨_, _, _, _, _, _, _, rfl, w1.mono RCls.mono hy, w2.mono RMth.mono hy, w3.mono RN.mono hy, ⟨_, O.view, Chunks.of_map⟩, hvl _, w6.mono RN.mono hy, w7.mono RB.mono hy⟩
 have hW := smR_WF (by omega) hwl hrl hr64
 have hfb : ∀ x ∈ (smR W rl).classes, x.faces.length ≤ 1048577 := small_fb W
 have hxG := hx.trans O.ext
 refine tA ?_
 refine s_regL [.B, .A, .B, .A, .A, .A] hD ?_
 apply x_ldnL 0 hD rfl rfl rfl rfl
 apply x_callL hD rfl rfl rfl (p25 hR' hW hfb).go
 rintro _ G2 ⟨rfl, hy⟩ hD
 apply x_ldnL 0 hD rfl rfl rfl rfl
 apply x_callL hD rfl rfl rfl (p26 (RImg.mono _ _ _ _ hy hR') hW).go
 rintro _ G3 ⟨rfl, hz⟩ hD
 apply x_as (w := .bool true) rfl rfl trivial (by simp)
 refine tZ ?_
 refine tA ?_
 exact lret_ret (vs := [.bool true]) rfl rfl rfl ((hxG.trans (hy.trans hz)).trans (ext_hsetD hD)) (ids_none hD (hxG.trans (hy.trans hz)))
end Go.Proofs
end
section
open Go Go.Abs Go.Img
namespace Go.Proofs
set_option maxRecDepth 100000
theorem wf_i64 {n : Int} (h : (Lit.int .i64 n).wf = true) : I64 n := by
 simp [Lit.wf, IntKind.min, IntKind.max, IntKind.bits, IntKind.signed] at h
 unfold I64
 omega
theorem wf_i32 {n : Int} (h : (Lit.int .i32 n).wf = true) : I32 n := by
 simp [Lit.wf, IntKind.min, IntKind.max, IntKind.bits, IntKind.signed] at h
 unfold I32
 omega
theorem im_int {k : Nat} {l : List AV} (h : TyC Tryz.prog (k + 1) 3 l) : ∃ n, (∀ h : Heap, RN .i64 h l n) ∧ I64 n := by
 obtain ⟨n, rfl, hw⟩ := tyc_int (i := .i64) (by kernel_rfl) h
 exact ⟨n, fun _ => rfl, wf_i64 hw⟩
theorem im_i32 {k : Nat} {l : List AV} (h : TyC Tryz.prog (k + 1) 21 l) : ∃ n, (∀ h : Heap, RN .i32 h l n) ∧ I32 n := by
 obtain ⟨n, rfl, hw⟩ := tyc_int (i := .i32) (by kernel_rfl) h
 exact ⟨n, fun _ => rfl, wf_i32 hw⟩
theorem im_ints {k : Nat} {l : List AV} (h : TyC Tryz.prog (k + 2) 24 l) : ∃ v x, l = [v] ∧ (∀ h, Sl (RN .i64) 1 h v x) ∧ Len x ∧ ∀ a ∈ x, I64 a := by
 obtain ⟨v, x, e, hx, hl, hw⟩ := tyc_list (e := 3) (s := 1) (by kernel_rfl) (by kernel_rfl) (fun l _ h => im_int h) h
 exact ⟨v, x, e, hx, hl, hw⟩
theorem im_i32s {k : Nat} {l : List AV} (h : TyC Tryz.prog (k + 2) 25 l) : ∃ v x, l = [v] ∧ (∀ h, Sl (RN .i32) 1 h v x) ∧ Len x ∧ ∀ a ∈ x, I32 a := by
 obtain ⟨v, x, e, hx, hl, hw⟩ := tyc_list (e := 21) (s := 1) (by kernel_rfl) (by kernel_rfl) (fun l _ h => im_i32 h) h
 exact ⟨v, x, e, hx, hl, hw⟩
theorem tyv_c {P : Program} {k : Nat} {t e : TypeId} {a : AV} (ht : P.underlying t = some (.slice e)) (h : TyV P k t a) : TyC P k t [a] := by
 unfold TyV at h
 rw [ht] at h
 exact h
theorem extok : ExtOK Tryz.prog SlimCode.ann := by
 intro f e h
 cases h
end Go.Proofs
end
section
open Go Go.Abs Go.Proofs.SlimCode Go.Img
namespace Go.Proofs
set_option maxRecDepth 100000
theorem run_of_h {A : Ann} {P : Program} {f : Nat} {vs : List AV} {Q : Heap → Prop} (h : HCallC P A f vs (fun _ => none) fun v h' => v = .bool true ∧ Q h') : ∃ n h' n' lg, callN P A n f vs (fun _ => none) 0 = some (.bool true, h', n', lg) := by
 obtain ⟨k, v, h', n', lg, e, rfl, _⟩ := h 0 (fun _ _ => rfl)
 exact ⟨k, h', n', lg, e⟩
theorem law_run (ps : List AV) (h : TyVs Tryz.prog 6 Tryz.f10.params.toList ps) : ∃ n h' n' lg, callN Tryz.prog ann n 10 ps (fun _ => none) 0 = some (.bool true, h', n', lg) := by
 obtain ⟨a, _, rfl, ha, b, _, rfl, hb, rfl⟩ := h
 obtain ⟨v, x, e, hv, hl, h64⟩ := im_ints (k := 4) (tyv_c (e := 3) (by kernel_rfl) ha)
 obtain rfl := (List.cons.inj e).1
 obtain ⟨w, y, e, hw, hm, h32⟩ := im_i32s (k := 4) (tyv_c (e := 21) (by kernel_rfl) hb)
 obtain rfl := (List.cons.inj e).1
 exact run_of_h (p10 hv hl h64 hw hm h32)
end Go.Proofs
end
