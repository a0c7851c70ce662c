import Derived.Test.YtmnnmgfjlokmkaaGreatAbsTac
import Derived.Test.YtmnnmgfjlokmkaaGreatImAnn
import Derived.Test.YtmnnmgfjlokmkaaGreatImCrc
section
open Go Go.Abs Go.Proofs.SlimCode Go.Img
set_option maxRecDepth 100000
namespace Go.Proofs
theorem leb_len : ∀ (k u : Nat), u < 128 ^ (k + 1) → (leb u).length ≤ k + 1
 | 0, u, h => by
  rw [leb, if_pos (by simpa using h)]
  simp
 | k + 1, u, h => by
  rw [leb]
  split
  ·simp
  ·simp only [List.length_cons]
   have := leb_len k (u / 128) (by rw [Nat.pow_succ] at h; omega)
   omega
theorem put_len {n : Int} (h : I64 n) : (put n).length ≤ 10 := leb_len 9 _ (Nat.lt_of_lt_of_le (zz_lt h) (by decide))
theorem notree {hb h : Heap} {s n : Nat} {v : AV} {cs : List AV} (H : OSl hb s v cs n h) (h0 : 0 < n) : v.tree = false := by
 rcases H.own with ⟨_, _, rfl⟩ | ⟨i, rfl, _⟩
 ·omega
 ·rfl
theorem shl1 {n : Int} (_h : I64 n) : AV.int .u64 (IntKind.wrap .u64 (IntKind.wrap .u64 n * 2 ^ (min (1 : Int).toNat (IntKind.bits .u64)))) = .int .u64 ((2 * n) % 18446744073709551616) := by
 simp [IntKind.wrap, IntKind.bits, IntKind.signed]
 omega
theorem xor64 (m : Nat) (h : m < 18446744073709551616) : IntKind.wrap .u64 ((BitVec.ofInt 64 18446744073709551615 ^^^ BitVec.ofInt 64 (m : Int)).toNat) = ((18446744073709551615 - m : Nat) : Int) := by
 have e : (BitVec.ofInt 64 18446744073709551615 ^^^ BitVec.ofInt 64 (m : Int)) = ~~~ (BitVec.ofNat 64 m) := by
  have e1 : BitVec.ofInt 64 (18446744073709551615 : Int) = BitVec.allOnes 64 := by decide
  have e2 : BitVec.ofInt 64 (m : Int) = BitVec.ofNat 64 m := by rw [BitVec.ofInt_natCast]
  rw [e1, e2, BitVec.allOnes_xor]
 rw [e, BitVec.toNat_not, BitVec.toNat_ofNat]
 simp only [IntKind.wrap, IntKind.bits, IntKind.signed]
 simp
 omega
theorem or128 (u : Nat) : AV.int .u8 (IntKind.wrap .u8 ((BitVec.ofInt (IntKind.bits .u8) (IntKind.wrap .u8 (u : Int)) ||| BitVec.ofInt (IntKind.bits .u8) 128).toNat)) = ub (UInt8.ofNat (u % 128 + 128)) := by
 have e : IntKind.wrap .u8 (u : Int) = ((u % 256 : Nat) : Int) := by
  simp [IntKind.wrap, IntKind.bits, IntKind.signed]
 rw [e]
 have key : ∀ a : Nat, a < 256 → IntKind.wrap .u8 ((BitVec.ofInt 8 (a : Int) ||| BitVec.ofInt 8 128).toNat) = ((a % 128 + 128 : Nat) : Int) := by decide +kernel
 show AV.int .u8 (IntKind.wrap .u8 ((BitVec.ofInt 8 ((u % 256 : Nat) : Int) ||| BitVec.ofInt 8 128).toNat)) = _
 rw [key _ (Nat.mod_lt _ (by decide))]
 simp [ub]
 omega
theorem p102 {g h : Heap} {v : AV} {bs : B} {n : Int} (H : OSl g 1 v (ubs bs) bs.length h) (hn : I64 n) (hl : bs.length ≤ 1099511627776) :
  HCallC Tryz.prog ann 102 [v, I n] h fun v' h' => OSl g 1 v' (ubs (bs ++ put n)) (bs ++ put n).length h' := by
 refine s_call_x rfl Tryz.func102 (frc (by with_unfolding_all rfl)) rfl ?_
 refine tW ?_
 apply o_val rfl rfl (show (0 : Int) ≤ 1 by decide)
 rw [shl1 hn]
 refine tw ?_
 ((with_reducible apply o_nil); (with_reducible apply ssq_norm))
 apply s_join (σ := Unit) (fun _ => [(0, v), (5, .int .u64 (zz n : Int))]) (fun _ h' => h' = h)
 ·refine tW ?_
  (refine tG ?_; refine oB fun b hb => ?_)
  cases b
  ·refine tW ?_
   refine ⟨(), sub_cons rfl (sub_cons ?_ sub_nil), rfl, rfl⟩
   have : (2 * n) % 18446744073709551616 = (zz n : Int) := by
    unfold zz I64 at *
    simp at hb
    rw [if_neg (by omega)]
    omega
   rw [this]
   rfl
  ·refine tW ?_
   refine ⟨(), sub_cons rfl (sub_cons ?_ sub_nil), rfl, rfl⟩
   have e : (2 * n) % 18446744073709551616 = (((2 * n) % 18446744073709551616).toNat : Int) := by omega
   rw [e]
   show some (AV.int .u64 (IntKind.wrap .u64 ((BitVec.ofInt 64 18446744073709551615 ^^^ BitVec.ofInt 64 _).toNat))) = _
   rw [xor64 _ (by omega)]
   have : (18446744073709551615 - ((2 * n) % 18446744073709551616).toNat : Nat) = zz n := by
    unfold zz I64 at *
    simp at hb
    rw [if_pos hb]
    omega
   rw [this]
 rintro _ h' rfl
 refine tS ?_
 refine s_loop (fun s : AV × Nat × B => [(0, s.1), (5, .int .u64 (s.2.1 : Int))]) (fun s h' => OSl g 1 s.1 (ubs s.2.2) s.2.2.length h' ∧ s.2.2 ++ leb s.2.1 = bs ++ put n) (fun s => s.2.1) (v, zz n, bs)
  tU ⟨H, rfl⟩ ?_
 rintro ⟨v, u, cs⟩ h' ⟨H, he⟩
 simp only at H he ⊢
 have hlen : cs.length + (leb u).length ≤ bs.length + 10 := by
  have := congrArg List.length he
  rw [List.length_append, List.length_append] at this
  have := put_len hn
  omega
 refine tW ?_
 (refine tG ?_; refine oB fun b hb => ?_)
 cases b
 ·have hu : u < 128 := by simp at hb; omega
  refine tV ?_
  (refine tG ?_; (with_reducible apply o_cvN (a := u)); exact rfl; exact rfl; exact wu8 (by omega) (by omega))
  apply o_val rfl rfl (show (1 = 1 * 1 ∧ _) from ⟨rfl, rfl⟩)
  have e1 : leb u = [UInt8.ofNat u] := by rw [leb, if_pos hu]
  have e2 : AV.int .u8 (u : Int) = ub (UInt8.ofNat u) := by
   simp [ub]
   omega
  rw [e2]
  apply o_appO (new := ubs [UInt8.ofNat u]) rfl rfl rfl rfl H rfl rfl rfl (by simp; omega)
  intro v2 h2 H2 _
  have H3 : OSl g 1 v2 (ubs (bs ++ put n)) (bs ++ put n).length h2 := by
   rw [← he, e1]
   simpa [ubs] using H2
  refine tW ?_
  (first | apply hx_ret | apply hx_norm)
  ·exact rfl
  ·exact rfl
  ·show OSl g 1 v2 _ _ (killL [] h2)
   rw [killL_nil]
   exact H3
  ·intro ht
   have := notree H3 (by simp only [List.length_append]; have := leb_pos (zz n); unfold put; omega)
   rw [show tupled [v2] = v2 from rfl, this] at ht
   cases ht
 ·have hu : ¬ u < 128 := by simp at hb; omega
  refine tV ?_
  refine tw ?_
  apply o_as rfl rfl trivial (or128 u)
  apply o_val rfl rfl (show (1 = 1 * 1 ∧ _) from ⟨rfl, rfl⟩)
  apply o_appO (new := ubs [UInt8.ofNat (u % 128 + 128)]) rfl rfl rfl rfl H rfl rfl rfl (by simp; omega)
  intro v2 h2 H2 _
  refine tW ?_
  (refine tG ?_; (with_reducible apply o_shrN (a := u) (b := 7)); exact rfl; exact rfl; exact rfl; (decide))
  refine tW ?_
  have e1 : leb u = UInt8.ofNat (u % 128 + 128) :: leb (u / 128) := by rw [leb, if_neg hu]
  refine ⟨(v2, u / 128, cs ++ [UInt8.ofNat (u % 128 + 128)]), by simp only; omega, tU, rfl, ?_, ?_⟩
  ·simpa [ubs] using H2
  ·rw [← he, e1]
   simp
end Go.Proofs
end
section
open Go Go.Abs Go.Proofs.SlimCode Go.Img
set_option maxRecDepth 100000
namespace Go.Proofs
theorem ubs_append (a b : B) : ubs (a ++ b) = ubs a ++ ubs b := by simp [ubs]
theorem flat_succ {α : Type} (e : α → B) {l : List α} {k : Nat} (hk : k < l.length) : (l.take (k + 1)).flatMap e = (l.take k).flatMap e ++ e l[k] := by
 rw [List.take_add_one, List.getElem?_eq_getElem hk, Option.toList_some, List.flatMap_append, List.flatMap_singleton]
theorem p95 {g h : Heap} {v : AV} {bs s : B} (H : OSl g 1 v (ubs bs) bs.length h) (hl : (bs ++ eText s).length ≤ 1099511627776) :
  HCallC Tryz.prog ann 95 [v, .str s] h fun v' h' => OSl g 1 v' (ubs (bs ++ eText s)) (bs ++ eText s).length h' := by
 have hl2 : bs.length + ((put s.length).length + s.length) ≤ 1099511627776 := by simpa [eText] using hl
 refine s_call_x rfl Tryz.func95 (frc (by with_unfolding_all rfl)) rfl ?_
 refine tV ?_
 apply o_hcall rfl rfl rfl rfl (p102 H (n := s.length) (by unfold I64; omega) (by omega))
 intro v2 h2 H2
 refine tV ?_
 apply o_appsO (new := ubs s) (n := s.length) rfl rfl rfl rfl H2 (by simp [srcOf, ubs]) (by simp [ubs]) (by simp [ubs, AV.one]) (by simp only [List.length_append]; omega)
 intro v3 h3 H3 _
 have H4 : OSl g 1 v3 (ubs (bs ++ eText s)) (bs ++ eText s).length h3 := by
  have : bs ++ eText s = bs ++ put s.length ++ s := by simp [eText]
  rw [this]
  rw [ubs_append, show (bs ++ put s.length ++ s).length = (bs ++ put s.length).length + s.length from List.length_append]
  exact H3
 refine tW ?_
 (first | apply hx_ret | apply hx_norm)
 ·exact rfl
 ·exact rfl
 ·show OSl g 1 v3 _ _ (killL [] h3)
  rw [killL_nil]
  exact H4
 ·intro ht
  have := notree H4 (by simp only [List.length_append, eText]; have := leb_pos (zz s.length); unfold put; omega)
  rw [show tupled [v3] = v3 from rfl, this] at ht
  cases ht
theorem p42 {g : Heap} {w : Nat} {n : Int} (hn : I64 n) : Writes Tryz.prog ann 42 [.ptr w 0, I n] w (put n) g := by
 intro bs h H hl
 obtain ⟨v, hw, O⟩ := H.own
 refine s_call_x rfl Tryz.func42 (frc (by with_unfolding_all rfl)) rfl ?_
 refine tV ?_
 apply o_ldh rfl rfl hw (fun h => by omega) rfl
 refine tV ?_
 apply o_hcall rfl rfl rfl rfl (p102 O hn (by simp only [List.length_append] at hl; omega))
 intro v2 h2 O2
 refine tV ?_
 obtain ⟨hw2, W2⟩ := Wr.put H.fresh O2
 apply o_st1 rfl rfl rfl rfl (O2.view.one) hw2 (Nat.zero_lt_one)
 refine tW ?_
 (first | apply hx_ret | apply hx_norm)
 ·exact (rfl : resE _ [] = some [])
 ·exact rfl
 ·rw [killL_nil]
  exact ⟨rfl, W2⟩
 ·exact fun _ => .inr ⟨w, H.changed W2 (put_ne n)⟩
theorem p45 {g : Heap} {w : Nat} {n : Int} (hn : I32 n) : Writes Tryz.prog ann 45 [.ptr w 0, .int .i32 n] w (put n) g := by
 intro bs h H hl
 have hn' : I64 n := by unfold I32 at hn; unfold I64; omega
 refine s_call_x rfl Tryz.func45 (frc (by with_unfolding_all rfl)) rfl ?_
 refine tV ?_
 apply o_int rfl rfl trivial (w64 (n := n) hn'.1 hn'.2)
 apply o_hcall rfl rfl rfl rfl (p42 hn' bs h H hl)
 rintro _ h1 ⟨rfl, H1⟩
 refine tW ?_
 (first | apply hx_ret | apply hx_norm)
 ·exact (rfl : resE _ [] = some [])
 ·exact rfl
 ·rw [killL_nil]
  exact ⟨rfl, H1⟩
 ·exact fun _ => .inr ⟨w, H.changed H1 (put_ne n)⟩
theorem p47 {g : Heap} {w : Nat} {b : Bool} : Writes Tryz.prog ann 47 [.ptr w 0, .bool b] w (eTruth b) g := by
 intro bs h H hl
 refine s_call_x rfl Tryz.func47 (frc (by with_unfolding_all rfl)) rfl ?_
 cases b
 ·refine tV ?_
  apply o_hcall rfl rfl rfl rfl (p42 (n := 0) (by unfold I64; omega) bs h H hl)
  rintro _ h1 ⟨rfl, H1⟩
  refine tW ?_
  (first | apply hx_ret | apply hx_norm)
  ·exact (rfl : resE _ [] = some [])
  ·exact rfl
  ·rw [killL_nil]
   exact ⟨rfl, H1⟩
  ·exact fun _ => .inr ⟨w, H.changed H1 (put_ne _)⟩
 ·refine tV ?_
  apply o_hcall rfl rfl rfl rfl (p42 (n := 1) (by unfold I64; omega) bs h H hl)
  rintro _ h1 ⟨rfl, H1⟩
  refine tW ?_
  (first | apply hx_ret | apply hx_norm)
  ·exact (rfl : resE _ [] = some [])
  ·exact rfl
  ·rw [killL_nil]
   exact ⟨rfl, H1⟩
  ·exact fun _ => .inr ⟨w, H.changed H1 (put_ne _)⟩
theorem p43 {g : Heap} {w gf : Nat} {first cap : List AV} {v : AV} {l : List Int} {e : Int → B} (hv : Sl (RN .i64) 1 g v l) (hlen : l.length ≤ 9223372036854775807)
  (hp : ∀ a ∈ l, ∀ g', Ext g g' → Writes Tryz.prog ann gf (first ++ [I a] ++ cap) w (e a) g') : Writes Tryz.prog ann 43 [.ptr w 0, v, .fn gf first cap] w (eList e l) g := by
 intro bs h H hl
 have hl2 : bs.length + ((put l.length).length + (l.flatMap e).length) ≤ 1099511627776 := by simpa [eList] using hl
 refine s_call_x rfl Tryz.func43 (frc (by with_unfolding_all rfl)) rfl ?_
 refine tV ?_
 apply o_lenG rfl rfl H.ext hv
 apply o_hcall rfl rfl rfl rfl (p42 (n := l.length) (by unfold I64; omega) bs h H (by simp only [List.length_append]; omega))
 rintro _ h1 ⟨rfl, H1⟩
 refine tV ?_
 apply o_lenG rfl rfl H1.ext hv
 refine tV ?_
 refine s_loop (fun k : Nat => [(2, .fn gf first cap), (12, v), (13, .int .i64 l.length), (14, .int .i64 k)]) (fun k h => k ≤ l.length ∧ Wr g w (bs ++ put l.length ++ (l.take k).flatMap e) h) (fun k => l.length - k) 0
  tU ⟨Nat.zero_le _, by simpa using H1⟩ ?_
 rintro k h2 ⟨hk, H2⟩
 refine tW ?_
 (refine tG ?_; refine oB fun b hb => ?_; cases b)
 case false =>
  have hkl : k = l.length := by simp at hb; omega
  subst hkl
  have H3 : Wr g w (bs ++ eList e l) h2 := by
   rw [List.take_of_length_le (Nat.le_refl _)] at H2
   rw [show bs ++ eList e l = bs ++ put l.length ++ l.flatMap e by simp [eList]]
   exact H2
  refine tW ?_
  (first | apply hx_ret | apply hx_norm)
  ·exact (rfl : resE _ [] = some [])
  ·exact rfl
  ·rw [killL_nil]
   exact ⟨rfl, H3⟩
  ·exact fun _ => .inr ⟨w, H.changed H3 (by unfold eList; intro h; exact put_ne _ (List.append_eq_nil_iff.1 h).1)⟩
 have hkl : k < l.length := by simpa using hb
 refine tV ?_
 apply o_iaG rfl rfl rfl H2.ext hv hkl
 intro p c hpc hc _
 obtain rfl : c = [I l[k]] := hc
 apply o_ldV rfl rfl hpc (fun h => by omega)
 refine tV ?_
 have hle : ((l.take k).flatMap e).length + (e l[k]).length ≤ (l.flatMap e).length := by
  have h1 := flat_succ e hkl
  have h2 : l.flatMap e = (l.take (k + 1)).flatMap e ++ (l.drop (k + 1)).flatMap e := by rw [← List.flatMap_append, List.take_append_drop]
  rw [h2, h1]
  simp only [List.length_append]
  omega
 apply o_hcall rfl rfl rfl rfl (hp l[k] (List.getElem_mem hkl) g .refl _ h2 H2 (by simp only [List.length_append]; omega))
 rintro _ h3 ⟨rfl, H3⟩
 refine tW ?_
 rw [w64 (n := (k : Int) + 1) (by omega) (by omega)]
 refine ⟨k + 1, by simp only; omega, tU, rfl, by omega, ?_⟩
 rw [flat_succ e hkl, ← List.append_assoc]
 exact H3
theorem p44 {g : Heap} {w gf : Nat} {first cap : List AV} {v : AV} {l : List Int} {e : Int → B} (hv : Sl (RN .i32) 1 g v l) (hlen : l.length ≤ 9223372036854775807)
  (hp : ∀ a ∈ l, ∀ g', Ext g g' → Writes Tryz.prog ann gf (first ++ [.int .i32 a] ++ cap) w (e a) g') : Writes Tryz.prog ann 44 [.ptr w 0, v, .fn gf first cap] w (eList e l) g := by
 intro bs h H hl
 have hl2 : bs.length + ((put l.length).length + (l.flatMap e).length) ≤ 1099511627776 := by simpa [eList] using hl
 refine s_call_x rfl Tryz.func44 (frc (by with_unfolding_all rfl)) rfl ?_
 refine tV ?_
 apply o_lenG rfl rfl H.ext hv
 apply o_hcall rfl rfl rfl rfl (p42 (n := l.length) (by unfold I64; omega) bs h H (by simp only [List.length_append]; omega))
 rintro _ h1 ⟨rfl, H1⟩
 refine tV ?_
 apply o_lenG rfl rfl H1.ext hv
 refine tV ?_
 refine s_loop (fun k : Nat => [(2, .fn gf first cap), (12, v), (13, .int .i64 l.length), (14, .int .i64 k)]) (fun k h => k ≤ l.length ∧ Wr g w (bs ++ put l.length ++ (l.take k).flatMap e) h) (fun k => l.length - k) 0
  tU ⟨Nat.zero_le _, by simpa using H1⟩ ?_
 rintro k h2 ⟨hk, H2⟩
 refine tW ?_
 (refine tG ?_; refine oB fun b hb => ?_; cases b)
 case false =>
  have hkl : k = l.length := by simp at hb; omega
  subst hkl
  have H3 : Wr g w (bs ++ eList e l) h2 := by
   rw [List.take_of_length_le (Nat.le_refl _)] at H2
   rw [show bs ++ eList e l = bs ++ put l.length ++ l.flatMap e by simp [eList]]
   exact H2
  refine tW ?_
  (first | apply hx_ret | apply hx_norm)
  ·exact (rfl : resE _ [] = some [])
  ·exact rfl
  ·rw [killL_nil]
   exact ⟨rfl, H3⟩
  ·exact fun _ => .inr ⟨w, H.changed H3 (by unfold eList; intro h; exact put_ne _ (List.append_eq_nil_iff.1 h).1)⟩
 have hkl : k < l.length := by simpa using hb
 refine tV ?_
 apply o_iaG rfl rfl rfl H2.ext hv hkl
 intro p c hpc hc _
 obtain rfl : c = [.int .i32 l[k]] := hc
 apply o_ldV rfl rfl hpc (fun h => by omega)
 refine tV ?_
 have hle : ((l.take k).flatMap e).length + (e l[k]).length ≤ (l.flatMap e).length := by
  have h1 := flat_succ e hkl
  have h2 : l.flatMap e = (l.take (k + 1)).flatMap e ++ (l.drop (k + 1)).flatMap e := by rw [← List.flatMap_append, List.take_append_drop]
  rw [h2, h1]
  simp only [List.length_append]
  omega
 apply o_hcall rfl rfl rfl rfl (hp l[k] (List.getElem_mem hkl) g .refl _ h2 H2 (by simp only [List.length_append]; omega))
 rintro _ h3 ⟨rfl, H3⟩
 refine tW ?_
 rw [w64 (n := (k : Int) + 1) (by omega) (by omega)]
 refine ⟨k + 1, by simp only; omega, tU, rfl, by omega, ?_⟩
 rw [flat_succ e hkl, ← List.append_assoc]
 exact H3
theorem p46 {g : Heap} {w gf : Nat} {first cap : List AV} {v : AV} {l : List Bool} {e : Bool → B} (hv : Sl RB 1 g v l) (hlen : l.length ≤ 9223372036854775807)
  (hp : ∀ a ∈ l, ∀ g', Ext g g' → Writes Tryz.prog ann gf (first ++ [.bool a] ++ cap) w (e a) g') : Writes Tryz.prog ann 46 [.ptr w 0, v, .fn gf first cap] w (eList e l) g := by
 intro bs h H hl
 have hl2 : bs.length + ((put l.length).length + (l.flatMap e).length) ≤ 1099511627776 := by simpa [eList] using hl
 refine s_call_x rfl Tryz.func46 (frc (by with_unfolding_all rfl)) rfl ?_
 refine tV ?_
 apply o_lenG rfl rfl H.ext hv
 apply o_hcall rfl rfl rfl rfl (p42 (n := l.length) (by unfold I64; omega) bs h H (by simp only [List.length_append]; omega))
 rintro _ h1 ⟨rfl, H1⟩
 refine tV ?_
 apply o_lenG rfl rfl H1.ext hv
 refine tV ?_
 refine s_loop (fun k : Nat => [(2, .fn gf first cap), (12, v), (13, .int .i64 l.length), (14, .int .i64 k)]) (fun k h => k ≤ l.length ∧ Wr g w (bs ++ put l.length ++ (l.take k).flatMap e) h) (fun k => l.length - k) 0
  tU ⟨Nat.zero_le _, by simpa using H1⟩ ?_
 rintro k h2 ⟨hk, H2⟩
 refine tW ?_
 (refine tG ?_; refine oB fun b hb => ?_; cases b)
 case false =>
  have hkl : k = l.length := by simp at hb; omega
  subst hkl
  have H3 : Wr g w (bs ++ eList e l) h2 := by
   rw [List.take_of_length_le (Nat.le_refl _)] at H2
   rw [show bs ++ eList e l = bs ++ put l.length ++ l.flatMap e by simp [eList]]
   exact H2
  refine tW ?_
  (first | apply hx_ret | apply hx_norm)
  ·exact (rfl : resE _ [] = some [])
  ·exact rfl
  ·rw [killL_nil]
   exact ⟨rfl, H3⟩
  ·exact fun _ => .inr ⟨w, H.changed H3 (by unfold eList; intro h; exact put_ne _ (List.append_eq_nil_iff.1 h).1)⟩
 have hkl : k < l.length := by simpa using hb
 refine tV ?_
 apply o_iaG rfl rfl rfl H2.ext hv hkl
 intro p c hpc hc _
 obtain rfl : c = [.bool l[k]] := hc
 apply o_ldV rfl rfl hpc (fun h => by omega)
 refine tV ?_
 have hle : ((l.take k).flatMap e).length + (e l[k]).length ≤ (l.flatMap e).length := by
  have h1 := flat_succ e hkl
  have h2 : l.flatMap e = (l.take (k + 1)).flatMap e ++ (l.drop (k + 1)).flatMap e := by rw [← List.flatMap_append, List.take_append_drop]
  rw [h2, h1]
  simp only [List.length_append]
  omega
 apply o_hcall rfl rfl rfl rfl (hp l[k] (List.getElem_mem hkl) g .refl _ h2 H2 (by simp only [List.length_append]; omega))
 rintro _ h3 ⟨rfl, H3⟩
 refine tW ?_
 rw [w64 (n := (k : Int) + 1) (by omega) (by omega)]
 refine ⟨k + 1, by simp only; omega, tU, rfl, by omega, ?_⟩
 rw [flat_succ e hkl, ← List.append_assoc]
 exact H3
end Go.Proofs
end
section
open Go Go.Abs Go.Proofs.SlimCode Go.Img
set_option maxRecDepth 100000
namespace Go.Proofs
theorem splice_full {z c : List AV} (h : c.length = z.length) : spliceL z 0 c = some c := by
 unfold spliceL
 rw [if_pos (by omega)]
 simp [h]
theorem RPair.one {h : Heap} {c : List AV} {p : Int × Int} (H : RPair h c p) : c.all AV.one = true := by rw [H]; rfl
theorem RFour.one {h : Heap} {c : List AV} {p : Four} (H : RFour h c p) : c.all AV.one = true := by rw [H]; rfl
theorem p38 {g : Heap} {w gf : Nat} {first cap : List AV} {v : AV} {l : List Cls} {e : Cls → B} (hv : Sl RCls 10 g v l) (hlen : l.length ≤ 9223372036854775807)
  (hp : ∀ a ∈ l, ∀ g' c, Ext g g' → RCls g' c a → Writes Tryz.prog ann gf (first ++ [.agg c] ++ cap) w (e a) g') : Writes Tryz.prog ann 38 [.ptr w 0, v, .fn gf first cap] w (eList e l) g := by
 intro bs h H hl
 have hl2 : bs.length + ((put l.length).length + (l.flatMap e).length) ≤ 1099511627776 := by simpa [eList] using hl
 refine s_call_x rfl Tryz.func38 (frc (by with_unfolding_all rfl)) rfl ?_
 refine tV ?_
 apply o_lenG rfl rfl H.ext hv
 apply o_hcall rfl rfl rfl rfl (p42 (n := l.length) (by unfold I64; omega) bs h H (by simp only [List.length_append]; omega))
 rintro _ h1 ⟨rfl, H1⟩
 refine tV ?_
 apply o_lenG rfl rfl H1.ext hv
 refine tV ?_
 refine s_loopB (fun s : Nat × List Nat × Heap => [(2, .fn gf first cap), (12, v), (13, .int .i64 l.length), (14, .int .i64 (s.1 : Int))]) (fun s => s.2.1)
  (fun s h => s.1 ≤ l.length ∧ Ext g s.2.2 ∧ (∀ b ∈ s.2.1, s.2.2 b ≠ none ∧ g b = none) ∧ Wr s.2.2 w (bs ++ put l.length ++ (l.take s.1).flatMap e) h) (fun s => l.length - s.1) (0, [], g)
  tU rfl ⟨Nat.zero_le _, .refl, by simp, by simpa using H1⟩ ?_
 rintro ⟨k, bx, g'⟩ h2 ⟨hk, hx, hbx, H2⟩
 simp only at hk hx hbx H2 ⊢
 refine tW ?_
 (refine tG ?_; refine oB fun b hb => ?_; cases b)
 case false =>
  have hkl : k = l.length := by simp at hb; omega
  subst hkl
  have H3 : Wr g' w (bs ++ eList e l) h2 := by
   rw [List.take_of_length_le (Nat.le_refl _)] at H2
   rw [show bs ++ eList e l = bs ++ put l.length ++ l.flatMap e by simp [eList]]
   exact H2
  refine tW ?_
  (first | apply hx_ret | apply hx_norm)
  ·exact (rfl : resE _ [] = some [])
  ·exact rfl
  ·exact ⟨rfl, H3.kill hx hbx⟩
  ·exact fun _ => .inr ⟨w, H.changed (H3.base hx) (by unfold eList; intro h; exact put_ne _ (List.append_eq_nil_iff.1 h).1)⟩
 have hkl : k < l.length := by simpa using hb
 refine tV ?_
 apply o_iaG rfl rfl rfl (hx.trans H2.ext) hv hkl
 intro p c hpc hc hcl
 apply o_ldVn rfl rfl hpc hcl (fun h => by omega)
 apply o_alc rfl
 intro b hbn
 apply o_st (v := .agg c) rfl rfl rfl rfl hcl (RCls.one hc) upd_same (splice_full (show c.length = _ by rw [hcl]; rfl))
 rw [upd_upd]
 refine tV ?_
 apply o_ldhn rfl rfl upd_same (fun h => by omega) (sliceL_all hcl)
 have hle : ((l.take k).flatMap e).length + (e l[k]).length ≤ (l.flatMap e).length := by
  have h1 := flat_succ e hkl
  have h2 : l.flatMap e = (l.take (k + 1)).flatMap e ++ (l.drop (k + 1)).flatMap e := by rw [← List.flatMap_append, List.take_append_drop]
  rw [h2, h1]
  simp only [List.length_append]
  omega
 have hgb : g' b = none := by
  cases hh : g' b with
  | none => rfl
  | some o => rw [H2.ext b o hh] at hbn; cases hbn
 have hx2 : Ext g (upd g' b (some (.cells c))) := hx.trans (.upd hgb)
 apply o_hcall rfl rfl rfl rfl (hp l[k] (List.getElem_mem hkl) _ c hx2 (RCls.mono _ _ _ _ hx2 hc) _ _ (H2.box hbn) (by simp only [List.length_append]; omega))
 rintro _ h3 ⟨rfl, H3⟩
 refine tW ?_
 rw [w64 (n := (k : Int) + 1) (by omega) (by omega)]
 refine ⟨(k + 1, b :: bx, upd g' b (some (.cells c))), by simp only; omega, tU, rfl, hkl, hx2, fun i hi => ?_, ?_⟩
 ·show upd g' b (some (.cells c)) i ≠ none ∧ g i = none
  rcases List.mem_cons.1 hi with rfl | hi
  ·refine ⟨by rw [upd_same]; simp, ?_⟩
   cases hh : g i with
   | none => rfl
   | some o => rw [hx i o hh] at hgb; cases hgb
  ·obtain ⟨a1, a2⟩ := hbx i hi
   refine ⟨?_, a2⟩
   rw [upd_ne (fun e => a1 (by rw [e, hgb]))]
   exact a1
 ·simp only
  rw [flat_succ e hkl, ← List.append_assoc]
  exact H3
theorem p40 {g : Heap} {w gf : Nat} {first cap : List AV} {v : AV} {l : List Mth} {e : Mth → B} (hv : Sl RMth 6 g v l) (hlen : l.length ≤ 9223372036854775807)
  (hp : ∀ a ∈ l, ∀ g' c, Ext g g' → RMth g' c a → Writes Tryz.prog ann gf (first ++ [.agg c] ++ cap) w (e a) g') : Writes Tryz.prog ann 40 [.ptr w 0, v, .fn gf first cap] w (eList e l) g := by
 intro bs h H hl
 have hl2 : bs.length + ((put l.length).length + (l.flatMap e).length) ≤ 1099511627776 := by simpa [eList] using hl
 refine s_call_x rfl Tryz.func40 (frc (by with_unfolding_all rfl)) rfl ?_
 refine tV ?_
 apply o_lenG rfl rfl H.ext hv
 apply o_hcall rfl rfl rfl rfl (p42 (n := l.length) (by unfold I64; omega) bs h H (by simp only [List.length_append]; omega))
 rintro _ h1 ⟨rfl, H1⟩
 refine tV ?_
 apply o_lenG rfl rfl H1.ext hv
 refine tV ?_
 refine s_loopB (fun s : Nat × List Nat × Heap => [(2, .fn gf first cap), (12, v), (13, .int .i64 l.length), (14, .int .i64 (s.1 : Int))]) (fun s => s.2.1)
  (fun s h => s.1 ≤ l.length ∧ Ext g s.2.2 ∧ (∀ b ∈ s.2.1, s.2.2 b ≠ none ∧ g b = none) ∧ Wr s.2.2 w (bs ++ put l.length ++ (l.take s.1).flatMap e) h) (fun s => l.length - s.1) (0, [], g)
  tU rfl ⟨Nat.zero_le _, .refl, by simp, by simpa using H1⟩ ?_
 rintro ⟨k, bx, g'⟩ h2 ⟨hk, hx, hbx, H2⟩
 simp only at hk hx hbx H2 ⊢
 refine tW ?_
 (refine tG ?_; refine oB fun b hb => ?_; cases b)
 case false =>
  have hkl : k = l.length := by simp at hb; omega
  subst hkl
  have H3 : Wr g' w (bs ++ eList e l) h2 := by
   rw [List.take_of_length_le (Nat.le_refl _)] at H2
   rw [show bs ++ eList e l = bs ++ put l.length ++ l.flatMap e by simp [eList]]
   exact H2
  refine tW ?_
  (first | apply hx_ret | apply hx_norm)
  ·exact (rfl : resE _ [] = some [])
  ·exact rfl
  ·exact ⟨rfl, H3.kill hx hbx⟩
  ·exact fun _ => .inr ⟨w, H.changed (H3.base hx) (by unfold eList; intro h; exact put_ne _ (List.append_eq_nil_iff.1 h).1)⟩
 have hkl : k < l.length := by simpa using hb
 refine tV ?_
 apply o_iaG rfl rfl rfl (hx.trans H2.ext) hv hkl
 intro p c hpc hc hcl
 apply o_ldVn rfl rfl hpc hcl (fun h => by omega)
 apply o_alc rfl
 intro b hbn
 apply o_st (v := .agg c) rfl rfl rfl rfl hcl (RMth.one hc) upd_same (splice_full (show c.length = _ by rw [hcl]; rfl))
 rw [upd_upd]
 refine tV ?_
 apply o_ldhn rfl rfl upd_same (fun h => by omega) (sliceL_all hcl)
 have hle : ((l.take k).flatMap e).length + (e l[k]).length ≤ (l.flatMap e).length := by
  have h1 := flat_succ e hkl
  have h2 : l.flatMap e = (l.take (k + 1)).flatMap e ++ (l.drop (k + 1)).flatMap e := by rw [← List.flatMap_append, List.take_append_drop]
  rw [h2, h1]
  simp only [List.length_append]
  omega
 have hgb : g' b = none := by
  cases hh : g' b with
  | none => rfl
  | some o => rw [H2.ext b o hh] at hbn; cases hbn
 have hx2 : Ext g (upd g' b (some (.cells c))) := hx.trans (.upd hgb)
 apply o_hcall rfl rfl rfl rfl (hp l[k] (List.getElem_mem hkl) _ c hx2 (RMth.mono _ _ _ _ hx2 hc) _ _ (H2.box hbn) (by simp only [List.length_append]; omega))
 rintro _ h3 ⟨rfl, H3⟩
 refine tW ?_
 rw [w64 (n := (k : Int) + 1) (by omega) (by omega)]
 refine ⟨(k + 1, b :: bx, upd g' b (some (.cells c))), by simp only; omega, tU, rfl, hkl, hx2, fun i hi => ?_, ?_⟩
 ·show upd g' b (some (.cells c)) i ≠ none ∧ g i = none
  rcases List.mem_cons.1 hi with rfl | hi
  ·refine ⟨by rw [upd_same]; simp, ?_⟩
   cases hh : g i with
   | none => rfl
   | some o => rw [hx i o hh] at hgb; cases hgb
  ·obtain ⟨a1, a2⟩ := hbx i hi
   refine ⟨?_, a2⟩
   rw [upd_ne (fun e => a1 (by rw [e, hgb]))]
   exact a1
 ·simp only
  rw [flat_succ e hkl, ← List.append_assoc]
  exact H3
theorem p96 {g : Heap} {w gf : Nat} {first cap : List AV} {v : AV} {l : List (Int × Int)} {e : (Int × Int) → B} (hv : Sl RPair 2 g v l) (hlen : l.length ≤ 9223372036854775807)
  (hp : ∀ a ∈ l, ∀ g' c, Ext g g' → RPair g' c a → Writes Tryz.prog ann gf (first ++ [.agg c] ++ cap) w (e a) g') : Writes Tryz.prog ann 96 [.ptr w 0, v, .fn gf first cap] w (eList e l) g := by
 intro bs h H hl
 have hl2 : bs.length + ((put l.length).length + (l.flatMap e).length) ≤ 1099511627776 := by simpa [eList] using hl
 refine s_call_x rfl Tryz.func96 (frc (by with_unfolding_all rfl)) rfl ?_
 refine tV ?_
 apply o_lenG rfl rfl H.ext hv
 apply o_hcall rfl rfl rfl rfl (p42 (n := l.length) (by unfold I64; omega) bs h H (by simp only [List.length_append]; omega))
 rintro _ h1 ⟨rfl, H1⟩
 refine tV ?_
 apply o_lenG rfl rfl H1.ext hv
 refine tV ?_
 refine s_loopB (fun s : Nat × List Nat × Heap => [(2, .fn gf first cap), (12, v), (13, .int .i64 l.length), (14, .int .i64 (s.1 : Int))]) (fun s => s.2.1)
  (fun s h => s.1 ≤ l.length ∧ Ext g s.2.2 ∧ (∀ b ∈ s.2.1, s.2.2 b ≠ none ∧ g b = none) ∧ Wr s.2.2 w (bs ++ put l.length ++ (l.take s.1).flatMap e) h) (fun s => l.length - s.1) (0, [], g)
  tU rfl ⟨Nat.zero_le _, .refl, by simp, by simpa using H1⟩ ?_
 rintro ⟨k, bx, g'⟩ h2 ⟨hk, hx, hbx, H2⟩
 simp only at hk hx hbx H2 ⊢
 refine tW ?_
 (refine tG ?_; refine oB fun b hb => ?_; cases b)
 case false =>
  have hkl : k = l.length := by simp at hb; omega
  subst hkl
  have H3 : Wr g' w (bs ++ eList e l) h2 := by
   rw [List.take_of_length_le (Nat.le_refl _)] at H2
   rw [show bs ++ eList e l = bs ++ put l.length ++ l.flatMap e by simp [eList]]
   exact H2
  refine tW ?_
  (first | apply hx_ret | apply hx_norm)
  ·exact (rfl : resE _ [] = some [])
  ·exact rfl
  ·exact ⟨rfl, H3.kill hx hbx⟩
  ·exact fun _ => .inr ⟨w, H.changed (H3.base hx) (by unfold eList; intro h; exact put_ne _ (List.append_eq_nil_iff.1 h).1)⟩
 have hkl : k < l.length := by simpa using hb
 refine tV ?_
 apply o_iaG rfl rfl rfl (hx.trans H2.ext) hv hkl
 intro p c hpc hc hcl
 apply o_ldVn rfl rfl hpc hcl (fun h => by omega)
 apply o_alc rfl
 intro b hbn
 apply o_st (v := .agg c) rfl rfl rfl rfl hcl (RPair.one hc) upd_same (splice_full (show c.length = _ by rw [hcl]; rfl))
 rw [upd_upd]
 refine tV ?_
 apply o_ldhn rfl rfl upd_same (fun h => by omega) (sliceL_all hcl)
 have hle : ((l.take k).flatMap e).length + (e l[k]).length ≤ (l.flatMap e).length := by
  have h1 := flat_succ e hkl
  have h2 : l.flatMap e = (l.take (k + 1)).flatMap e ++ (l.drop (k + 1)).flatMap e := by rw [← List.flatMap_append, List.take_append_drop]
  rw [h2, h1]
  simp only [List.length_append]
  omega
 have hgb : g' b = none := by
  cases hh : g' b with
  | none => rfl
  | some o => rw [H2.ext b o hh] at hbn; cases hbn
 have hx2 : Ext g (upd g' b (some (.cells c))) := hx.trans (.upd hgb)
 apply o_hcall rfl rfl rfl rfl (hp l[k] (List.getElem_mem hkl) _ c hx2 (RPair.mono _ _ _ _ hx2 hc) _ _ (H2.box hbn) (by simp only [List.length_append]; omega))
 rintro _ h3 ⟨rfl, H3⟩
 refine tW ?_
 rw [w64 (n := (k : Int) + 1) (by omega) (by omega)]
 refine ⟨(k + 1, b :: bx, upd g' b (some (.cells c))), by simp only; omega, tU, rfl, hkl, hx2, fun i hi => ?_, ?_⟩
 ·show upd g' b (some (.cells c)) i ≠ none ∧ g i = none
  rcases List.mem_cons.1 hi with rfl | hi
  ·refine ⟨by rw [upd_same]; simp, ?_⟩
   cases hh : g i with
   | none => rfl
   | some o => rw [hx i o hh] at hgb; cases hgb
  ·obtain ⟨a1, a2⟩ := hbx i hi
   refine ⟨?_, a2⟩
   rw [upd_ne (fun e => a1 (by rw [e, hgb]))]
   exact a1
 ·simp only
  rw [flat_succ e hkl, ← List.append_assoc]
  exact H3
theorem p98 {g : Heap} {w gf : Nat} {first cap : List AV} {v : AV} {l : List Four} {e : Four → B} (hv : Sl RFour 4 g v l) (hlen : l.length ≤ 9223372036854775807)
  (hp : ∀ a ∈ l, ∀ g' c, Ext g g' → RFour g' c a → Writes Tryz.prog ann gf (first ++ [.agg c] ++ cap) w (e a) g') : Writes Tryz.prog ann 98 [.ptr w 0, v, .fn gf first cap] w (eList e l) g := by
 intro bs h H hl
 have hl2 : bs.length + ((put l.length).length + (l.flatMap e).length) ≤ 1099511627776 := by simpa [eList] using hl
 refine s_call_x rfl Tryz.func98 (frc (by with_unfolding_all rfl)) rfl ?_
 refine tV ?_
 apply o_lenG rfl rfl H.ext hv
 apply o_hcall rfl rfl rfl rfl (p42 (n := l.length) (by unfold I64; omega) bs h H (by simp only [List.length_append]; omega))
 rintro _ h1 ⟨rfl, H1⟩
 refine tV ?_
 apply o_lenG rfl rfl H1.ext hv
 refine tV ?_
 refine s_loopB (fun s : Nat × List Nat × Heap => [(2, .fn gf first cap), (12, v), (13, .int .i64 l.length), (14, .int .i64 (s.1 : Int))]) (fun s => s.2.1)
  (fun s h => s.1 ≤ l.length ∧ Ext g s.2.2 ∧ (∀ b ∈ s.2.1, s.2.2 b ≠ none ∧ g b = none) ∧ Wr s.2.2 w (bs ++ put l.length ++ (l.take s.1).flatMap e) h) (fun s => l.length - s.1) (0, [], g)
  tU rfl ⟨Nat.zero_le _, .refl, by simp, by simpa using H1⟩ ?_
 rintro ⟨k, bx, g'⟩ h2 ⟨hk, hx, hbx, H2⟩
 simp only at hk hx hbx H2 ⊢
 refine tW ?_
 (refine tG ?_; refine oB fun b hb => ?_; cases b)
 case false =>
  have hkl : k = l.length := by simp at hb; omega
  subst hkl
  have H3 : Wr g' w (bs ++ eList e l) h2 := by
   rw [List.take_of_length_le (Nat.le_refl _)] at H2
   rw [show bs ++ eList e l = bs ++ put l.length ++ l.flatMap e by simp [eList]]
   exact H2
  refine tW ?_
  (first | apply hx_ret | apply hx_norm)
  ·exact (rfl : resE _ [] = some [])
  ·exact rfl
  ·exact ⟨rfl, H3.kill hx hbx⟩
  ·exact fun _ => .inr ⟨w, H.changed (H3.base hx) (by unfold eList; intro h; exact put_ne _ (List.append_eq_nil_iff.1 h).1)⟩
 have hkl : k < l.length := by simpa using hb
 refine tV ?_
 apply o_iaG rfl rfl rfl (hx.trans H2.ext) hv hkl
 intro p c hpc hc hcl
 apply o_ldVn rfl rfl hpc hcl (fun h => by omega)
 apply o_alc rfl
 intro b hbn
 apply o_st (v := .agg c) rfl rfl rfl rfl hcl (RFour.one hc) upd_same (splice_full (show c.length = _ by rw [hcl]; rfl))
 rw [upd_upd]
 refine tV ?_
 apply o_ldhn rfl rfl upd_same (fun h => by omega) (sliceL_all hcl)
 have hle : ((l.take k).flatMap e).length + (e l[k]).length ≤ (l.flatMap e).length := by
  have h1 := flat_succ e hkl
  have h2 : l.flatMap e = (l.take (k + 1)).flatMap e ++ (l.drop (k + 1)).flatMap e := by rw [← List.flatMap_append, List.take_append_drop]
  rw [h2, h1]
  simp only [List.length_append]
  omega
 have hgb : g' b = none := by
  cases hh : g' b with
  | none => rfl
  | some o => rw [H2.ext b o hh] at hbn; cases hbn
 have hx2 : Ext g (upd g' b (some (.cells c))) := hx.trans (.upd hgb)
 apply o_hcall rfl rfl rfl rfl (hp l[k] (List.getElem_mem hkl) _ c hx2 (RFour.mono _ _ _ _ hx2 hc) _ _ (H2.box hbn) (by simp only [List.length_append]; omega))
 rintro _ h3 ⟨rfl, H3⟩
 refine tW ?_
 rw [w64 (n := (k : Int) + 1) (by omega) (by omega)]
 refine ⟨(k + 1, b :: bx, upd g' b (some (.cells c))), by simp only; omega, tU, rfl, hkl, hx2, fun i hi => ?_, ?_⟩
 ·show upd g' b (some (.cells c)) i ≠ none ∧ g i = none
  rcases List.mem_cons.1 hi with rfl | hi
  ·refine ⟨by rw [upd_same]; simp, ?_⟩
   cases hh : g i with
   | none => rfl
   | some o => rw [hx i o hh] at hgb; cases hgb
  ·obtain ⟨a1, a2⟩ := hbx i hi
   refine ⟨?_, a2⟩
   rw [upd_ne (fun e => a1 (by rw [e, hgb]))]
   exact a1
 ·simp only
  rw [flat_succ e hkl, ← List.append_assoc]
  exact H3
theorem p100 {g : Heap} {w gf : Nat} {first cap : List AV} {v : AV} {l : List Four} {e : Four → B} (hv : Sl RFour 4 g v l) (hlen : l.length ≤ 9223372036854775807)
  (hp : ∀ a ∈ l, ∀ g' c, Ext g g' → RFour g' c a → Writes Tryz.prog ann gf (first ++ [.agg c] ++ cap) w (e a) g') : Writes Tryz.prog ann 100 [.ptr w 0, v, .fn gf first cap] w (eList e l) g := by
 intro bs h H hl
 have hl2 : bs.length + ((put l.length).length + (l.flatMap e).length) ≤ 1099511627776 := by simpa [eList] using hl
 refine s_call_x rfl Tryz.func100 (frc (by with_unfolding_all rfl)) rfl ?_
 refine tV ?_
 apply o_lenG rfl rfl H.ext hv
 apply o_hcall rfl rfl rfl rfl (p42 (n := l.length) (by unfold I64; omega) bs h H (by simp only [List.length_append]; omega))
 rintro _ h1 ⟨rfl, H1⟩
 refine tV ?_
 apply o_lenG rfl rfl H1.ext hv
 refine tV ?_
 refine s_loopB (fun s : Nat × List Nat × Heap => [(2, .fn gf first cap), (12, v), (13, .int .i64 l.length), (14, .int .i64 (s.1 : Int))]) (fun s => s.2.1)
  (fun s h => s.1 ≤ l.length ∧ Ext g s.2.2 ∧ (∀ b ∈ s.2.1, s.2.2 b ≠ none ∧ g b = none) ∧ Wr s.2.2 w (bs ++ put l.length ++ (l.take s.1).flatMap e) h) (fun s => l.length - s.1) (0, [], g)
  tU rfl ⟨Nat.zero_le _, .refl, by simp, by simpa using H1⟩ ?_
 rintro ⟨k, bx, g'⟩ h2 ⟨hk, hx, hbx, H2⟩
 simp only at hk hx hbx H2 ⊢
 refine tW ?_
 (refine tG ?_; refine oB fun b hb => ?_; cases b)
 case false =>
  have hkl : k = l.length := by simp at hb; omega
  subst hkl
  have H3 : Wr g' w (bs ++ eList e l) h2 := by
   rw [List.take_of_length_le (Nat.le_refl _)] at H2
   rw [show bs ++ eList e l = bs ++ put l.length ++ l.flatMap e by simp [eList]]
   exact H2
  refine tW ?_
  (first | apply hx_ret | apply hx_norm)
  ·exact (rfl : resE _ [] = some [])
  ·exact rfl
  ·exact ⟨rfl, H3.kill hx hbx⟩
  ·exact fun _ => .inr ⟨w, H.changed (H3.base hx) (by unfold eList; intro h; exact put_ne _ (List.append_eq_nil_iff.1 h).1)⟩
 have hkl : k < l.length := by simpa using hb
 refine tV ?_
 apply o_iaG rfl rfl rfl (hx.trans H2.ext) hv hkl
 intro p c hpc hc hcl
 apply o_ldVn rfl rfl hpc hcl (fun h => by omega)
 apply o_alc rfl
 intro b hbn
 apply o_st (v := .agg c) rfl rfl rfl rfl hcl (RFour.one hc) upd_same (splice_full (show c.length = _ by rw [hcl]; rfl))
 rw [upd_upd]
 refine tV ?_
 apply o_ldhn rfl rfl upd_same (fun h => by omega) (sliceL_all hcl)
 have hle : ((l.take k).flatMap e).length + (e l[k]).length ≤ (l.flatMap e).length := by
  have h1 := flat_succ e hkl
  have h2 : l.flatMap e = (l.take (k + 1)).flatMap e ++ (l.drop (k + 1)).flatMap e := by rw [← List.flatMap_append, List.take_append_drop]
  rw [h2, h1]
  simp only [List.length_append]
  omega
 have hgb : g' b = none := by
  cases hh : g' b with
  | none => rfl
  | some o => rw [H2.ext b o hh] at hbn; cases hbn
 have hx2 : Ext g (upd g' b (some (.cells c))) := hx.trans (.upd hgb)
 apply o_hcall rfl rfl rfl rfl (hp l[k] (List.getElem_mem hkl) _ c hx2 (RFour.mono _ _ _ _ hx2 hc) _ _ (H2.box hbn) (by simp only [List.length_append]; omega))
 rintro _ h3 ⟨rfl, H3⟩
 refine tW ?_
 rw [w64 (n := (k : Int) + 1) (by omega) (by omega)]
 refine ⟨(k + 1, b :: bx, upd g' b (some (.cells c))), by simp only; omega, tU, rfl, hkl, hx2, fun i hi => ?_, ?_⟩
 ·show upd g' b (some (.cells c)) i ≠ none ∧ g i = none
  rcases List.mem_cons.1 hi with rfl | hi
  ·refine ⟨by rw [upd_same]; simp, ?_⟩
   cases hh : g i with
   | none => rfl
   | some o => rw [hx i o hh] at hgb; cases hgb
  ·obtain ⟨a1, a2⟩ := hbx i hi
   refine ⟨?_, a2⟩
   rw [upd_ne (fun e => a1 (by rw [e, hgb]))]
   exact a1
 ·simp only
  rw [flat_succ e hkl, ← List.append_assoc]
  exact H3
end Go.Proofs
end
section
open Go Go.Abs Go.Proofs.SlimCode Go.Img
set_option maxRecDepth 100000
namespace Go.Proofs
theorem eFour_eq (p : Four) : eFour p = [p.1, p.2.1, p.2.2.1, p.2.2.2].flatMap put := by simp [eFour]
theorem get_ints {l : List Int} {k : Nat} (hk : k < l.length) : (l.map I).getD ((k : Int).toNat * 1) .undef = I l[k] := by
 simp [hk]
theorem flat_le {α : Type} (e : α → B) {l : List α} {k : Nat} (hk : k < l.length) : ((l.take k).flatMap e).length + (e l[k]).length ≤ (l.flatMap e).length := by
 have h1 := flat_succ e hk
 have h2 : l.flatMap e = (l.take (k + 1)).flatMap e ++ (l.drop (k + 1)).flatMap e := by rw [← List.flatMap_append, List.take_append_drop]
 rw [h2, h1]
 simp only [List.length_append]
 omega
theorem p99 {g : Heap} {w : Nat} {c : List AV} {p : Four} (hc : RFour g c p) (hF : F64 p) : Writes Tryz.prog ann 99 [.ptr w 0, .agg c] w (eFour p) g := by
 intro bs h H hl
 obtain rfl : c = [I p.1, I p.2.1, I p.2.2.1, I p.2.2.2] := hc
 have hF4 : ∀ n ∈ [p.1, p.2.1, p.2.2.1, p.2.2.2], I64 n := by
  obtain ⟨a, b, c, d⟩ := hF
  intro n hn
  simp only [List.mem_cons, List.not_mem_nil, or_false] at hn
  rcases hn with rfl | rfl | rfl | rfl <;> assumption
 rw [eFour_eq] at hl ⊢
 rw [List.length_append] at hl
 refine s_call_x rfl Tryz.func99 (frc (by with_unfolding_all rfl)) rfl ?_
 refine tV ?_
 apply o_val rfl rfl (show List.all _ AV.one = true from rfl)
 refine tV ?_
 refine tw ?_
 refine tV ?_
 refine s_loop (fun k : Nat => [(0, .ptr w 0), (14, .agg ([p.1, p.2.1, p.2.2.1, p.2.2.2].map I)), (15, .int .i64 (k : Int))]) (fun k h => k ≤ 4 ∧ Wr g w (bs ++ ([p.1, p.2.1, p.2.2.1, p.2.2.2].take k).flatMap put) h) (fun k => 4 - k) 0
  tU ⟨Nat.zero_le _, by simpa using H⟩ ?_
 rintro k h2 ⟨hk, H2⟩
 refine tV ?_
 (refine tG ?_; refine oB fun b hb => ?_; cases b)
 case true =>
  have hk4 : k < [p.1, p.2.1, p.2.2.1, p.2.2.2].length := by simp at hb; show k < 4; omega
  refine tV ?_
  apply o_as (w := I ([p.1, p.2.1, p.2.2.1, p.2.2.2][k])) rfl rfl ⟨by omega, (show (k : Int) < 4 by have : k < 4 := hk4; omega), by simpa using hk4⟩ (get_ints hk4)
  refine tV ?_
  skip
  apply o_hcall rfl rfl rfl rfl (p42 (n := [p.1, p.2.1, p.2.2.1, p.2.2.2][k]) (hF4 _ (List.getElem_mem hk4)) _ h2 H2 (by have := flat_le put hk4; simp only [List.length_append] at this ⊢; omega))
  rintro _ h3 ⟨rfl, H3⟩
  refine tW ?_
  rw [w64 (n := (k : Int) + 1) (by omega) (by omega)]
  refine ⟨k + 1, (show 4 - (k + 1) < 4 - k by have : k < 4 := hk4; omega), tU, rfl, hk4, ?_⟩
  rw [flat_succ put hk4, ← List.append_assoc]
  exact H3
 have hk4 : k = 4 := by simp at hb; omega
 subst hk4
 have H3 : Wr g w (bs ++ [p.1, p.2.1, p.2.2.1, p.2.2.2].flatMap put) h2 := H2
 refine tW ?_
 (first | apply hx_ret | apply hx_norm)
 ·exact (rfl : resE _ [] = some [])
 ·exact rfl
 ·rw [killL_nil]
  exact ⟨rfl, H3⟩
 ·exact fun _ => .inr ⟨w, H.changed H3 (by intro h; simp only [List.flatMap_cons] at h; exact put_ne _ (List.append_eq_nil_iff.1 h).1)⟩
theorem p101 {g : Heap} {w : Nat} {c : List AV} {p : Four} (hc : RFour g c p) (hF : F64 p) : Writes Tryz.prog ann 101 [.ptr w 0, .agg c] w (eFour p) g := by
 intro bs h H hl
 obtain rfl : c = [I p.1, I p.2.1, I p.2.2.1, I p.2.2.2] := hc
 have hF4 : ∀ n ∈ [p.1, p.2.1, p.2.2.1, p.2.2.2], I64 n := by
  obtain ⟨a, b, c, d⟩ := hF
  intro n hn
  simp only [List.mem_cons, List.not_mem_nil, or_false] at hn
  rcases hn with rfl | rfl | rfl | rfl <;> assumption
 rw [eFour_eq] at hl ⊢
 rw [List.length_append] at hl
 refine s_call_x rfl Tryz.func101 (frc (by with_unfolding_all rfl)) rfl ?_
 refine tV ?_
 apply o_val rfl rfl (show List.all _ AV.one = true from rfl)
 refine tV ?_
 refine tw ?_
 refine tV ?_
 refine s_loop (fun k : Nat => [(0, .ptr w 0), (14, .agg ([p.1, p.2.1, p.2.2.1, p.2.2.2].map I)), (15, .int .i64 (k : Int))]) (fun k h => k ≤ 4 ∧ Wr g w (bs ++ ([p.1, p.2.1, p.2.2.1, p.2.2.2].take k).flatMap put) h) (fun k => 4 - k) 0
  tU ⟨Nat.zero_le _, by simpa using H⟩ ?_
 rintro k h2 ⟨hk, H2⟩
 refine tV ?_
 (refine tG ?_; refine oB fun b hb => ?_; cases b)
 case true =>
  have hk4 : k < [p.1, p.2.1, p.2.2.1, p.2.2.2].length := by simp at hb; show k < 4; omega
  refine tV ?_
  apply o_as (w := I ([p.1, p.2.1, p.2.2.1, p.2.2.2][k])) rfl rfl ⟨by omega, (show (k : Int) < 4 by have : k < 4 := hk4; omega), by simpa using hk4⟩ (get_ints hk4)
  refine tV ?_
  skip
  apply o_hcall rfl rfl rfl rfl (p42 (n := [p.1, p.2.1, p.2.2.1, p.2.2.2][k]) (hF4 _ (List.getElem_mem hk4)) _ h2 H2 (by have := flat_le put hk4; simp only [List.length_append] at this ⊢; omega))
  rintro _ h3 ⟨rfl, H3⟩
  refine tW ?_
  rw [w64 (n := (k : Int) + 1) (by omega) (by omega)]
  refine ⟨k + 1, (show 4 - (k + 1) < 4 - k by have : k < 4 := hk4; omega), tU, rfl, hk4, ?_⟩
  rw [flat_succ put hk4, ← List.append_assoc]
  exact H3
 have hk4 : k = 4 := by simp at hb; omega
 subst hk4
 have H3 : Wr g w (bs ++ [p.1, p.2.1, p.2.2.1, p.2.2.2].flatMap put) h2 := H2
 refine tW ?_
 (first | apply hx_ret | apply hx_norm)
 ·exact (rfl : resE _ [] = some [])
 ·exact rfl
 ·rw [killL_nil]
  exact ⟨rfl, H3⟩
 ·exact fun _ => .inr ⟨w, H.changed H3 (by intro h; simp only [List.flatMap_cons] at h; exact put_ne _ (List.append_eq_nil_iff.1 h).1)⟩
theorem p97 {g : Heap} {w b : Nat} {c : List AV} {p : Int × Int} (hc : RPair g c p) (h1 : I64 p.1) (h2 : I64 p.2) (hb : g b = some (.cells [.ptr w 0])) : Writes Tryz.prog ann 97 [.agg c, .ptr b 0] w (ePair p) g := by
 intro bs h H hl
 obtain rfl : c = [I p.1, I p.2] := hc
 unfold ePair at hl ⊢
 simp only [List.length_append] at hl
 refine s_call_x rfl Tryz.func97 (frc (by with_unfolding_all rfl)) rfl ?_
 refine tV ?_
 apply o_val rfl rfl (show List.all _ AV.one = true from rfl)
 refine tV ?_
 apply o_ldh rfl rfl (H.ext b _ hb) (fun h => by omega) rfl
 apply o_val rfl rfl ⟨Int.le_refl 0, by decide⟩
 refine tV ?_
 apply o_hcall rfl rfl rfl rfl (p42 h1 bs h H (by simp only [List.length_append]; omega))
 rintro _ h3 ⟨rfl, H3⟩
 refine tV ?_
 apply o_ldh rfl rfl (H3.ext b _ hb) (fun h => by omega) rfl
 apply o_val rfl rfl ⟨by decide, by decide⟩
 refine tV ?_
 apply o_hcall rfl rfl rfl rfl (p42 h2 _ h3 H3 (by simp only [List.length_append]; omega))
 rintro _ h4 ⟨rfl, H4⟩
 rw [List.append_assoc] at H4
 refine tW ?_
 (first | apply hx_ret | apply hx_norm)
 ·exact (rfl : resE _ [] = some [])
 ·exact rfl
 ·rw [killL_nil]
  exact ⟨rfl, H4⟩
 ·exact fun _ => .inr ⟨w, H.changed H4 (by intro h; exact put_ne _ (List.append_eq_nil_iff.1 h).1)⟩
theorem p41 {g : Heap} {w : Nat} {c : List AV} {m : Mth} (hc : RMth g c m) (hw : m.WF) : Writes Tryz.prog ann 41 [.ptr w 0, .agg c] w (eMth m) g := by
 intro bs h H hl
 have hone := hc.one
 obtain ⟨vc, vt, rfl, v1, v2⟩ := hc
 have e0 : eMth m = [m.args, m.locals, m.stack].flatMap put ++ (eTruth m.gives ++ (eList eFour m.code ++ eList eFour m.traps)) := by simp [eMth]
 rw [e0] at hl ⊢
 simp only [List.length_append] at hl
 have hF4 : ∀ n ∈ [m.args, m.locals, m.stack], I64 n := by
  intro n hn
  simp only [List.mem_cons, List.not_mem_nil, or_false] at hn
  rcases hn with rfl | rfl | rfl
  ·exact hw.args
  ·exact hw.locals
  ·exact hw.stack
 refine s_call_x rfl Tryz.func41 (frc (by with_unfolding_all rfl)) rfl ?_
 refine tV ?_
 apply o_val rfl rfl hone
 refine tV ?_
 refine tw ?_
 refine tV ?_
 refine s_loop (fun k : Nat => [(0, .ptr w 0), (3, .tptr [I m.args, I m.locals, I m.stack, .bool m.gives, vc, vt] 0), (12, .agg ([m.args, m.locals, m.stack].map I)), (13, .int .i64 (k : Int))]) (fun k h => k ≤ 3 ∧ Wr g w (bs ++ ([m.args, m.locals, m.stack].take k).flatMap put) h) (fun k => 3 - k) 0
  tU ⟨Nat.zero_le _, by simpa using H⟩ ?_
 rintro k h2 ⟨hk, H2⟩
 refine tV ?_
 (refine tG ?_; refine oB fun b hb => ?_; cases b)
 case true =>
  have hk4 : k < [m.args, m.locals, m.stack].length := by simp at hb; show k < 3; omega
  refine tV ?_
  apply o_as (w := I ([m.args, m.locals, m.stack][k])) rfl rfl ⟨by omega, (show (k : Int) < 3 by have : k < 3 := hk4; omega), by simpa using hk4⟩ (get_ints hk4)
  refine tV ?_
  skip
  apply o_hcall rfl rfl rfl rfl (p42 (n := [m.args, m.locals, m.stack][k]) (hF4 _ (List.getElem_mem hk4)) _ h2 H2 (by have := flat_le put hk4; simp only [List.length_append] at this ⊢; omega))
  rintro _ h3 ⟨rfl, H3⟩
  refine tW ?_
  rw [w64 (n := (k : Int) + 1) (by omega) (by omega)]
  refine ⟨k + 1, (show 3 - (k + 1) < 3 - k by have : k < 3 := hk4; omega), tU, rfl, hk4, ?_⟩
  rw [flat_succ put hk4, ← List.append_assoc]
  exact H3
 have hk4 : k = 3 := by simp at hb; omega
 subst hk4
 have H3 : Wr g w (bs ++ [m.args, m.locals, m.stack].flatMap put) h2 := H2
 refine tV ?_
 apply o_hcall rfl rfl rfl rfl (p47 (b := m.gives) _ h2 H3 (by simp only [List.length_append]; omega))
 rintro _ h4 ⟨rfl, H4⟩
 refine tV ?_
 apply o_hcall rfl rfl rfl rfl (p98 (e := eFour) v1 hw.code.1 (fun a ha g' c _ hc => p99 hc (hw.code.2 a ha)) _ h4 H4 (by simp only [List.length_append]; omega))
 rintro _ h5 ⟨rfl, H5⟩
 refine tV ?_
 apply o_hcall rfl rfl rfl rfl (p100 (e := eFour) v2 hw.traps.1 (fun a ha g' c _ hc => p101 hc (hw.traps.2 a ha)) _ h5 H5 (by simp only [List.length_append]; omega))
 rintro _ h6 ⟨rfl, H6⟩
 simp only [List.append_assoc] at H6
 refine tW ?_
 (first | apply hx_ret | apply hx_norm)
 ·exact (rfl : resE _ [] = some [])
 ·exact rfl
 ·rw [killL_nil]
  exact ⟨rfl, H6⟩
 ·exact fun _ => .inr ⟨w, H.changed H6 (by intro h; simp only [List.flatMap_cons, List.append_assoc] at h; exact put_ne _ (List.append_eq_nil_iff.1 h).1)⟩
end Go.Proofs
end
section
open Go Go.Abs Go.Proofs.SlimCode Go.Img
set_option maxRecDepth 100000
namespace Go.Proofs
theorem p39 {g : Heap} {w : Nat} {c : List AV} {x : Cls} (hc : RCls g c x) (hw : x.WF) : Writes Tryz.prog ann 39 [.ptr w 0, .agg c] w (eCls x) g := by
 intro bs h H hl
 have hone := hc.one
 obtain ⟨vr, vs, vt, vf, rfl, v1, v2', v3, v4⟩ := hc
 have e0 : eCls x = eText x.name ++ ([x.super, x.init, x.array, x.elem].flatMap put ++ (eTruth x.thrown ++ (eList eTruth x.refs ++ (eList put x.subs ++ (eList put x.slots ++ eList ePair x.faces))))) := by simp [eCls]
 rw [e0] at hl ⊢
 simp only [List.length_append] at hl
 have hF4 : ∀ n ∈ [x.super, x.init, x.array, x.elem], I64 n := by
  intro n hn
  simp only [List.mem_cons, List.not_mem_nil, or_false] at hn
  rcases hn with rfl | rfl | rfl | rfl
  ·exact hw.super
  ·exact hw.init
  ·exact hw.array
  ·exact hw.elem
 refine s_call_x rfl Tryz.func39 (frc (by with_unfolding_all rfl)) rfl ?_
 refine tS ?_
 apply o_hbox rfl rfl rfl
 intro b hbn
 apply o_val rfl rfl hone
 with_reducible apply o_nil
 with_reducible apply ssq_norm
 with_reducible apply s_seq
 have H' := H.box (o := .cells [.ptr w 0]) hbn
 have hwb : w ≠ b := fun e => H.live (by rw [e, hbn])
 have hgb : g b = none := by
  cases hh : g b with
  | none => rfl
  | some o => rw [H.ext b o hh] at hbn; cases hbn
 have hx2 : Ext g (upd g b (some (.cells [.ptr w 0]))) := .upd hgb
 obtain ⟨v, hv, O⟩ := H'.own
 show SRun _ _ _ _ _ _ [b] (upd h b (some (.cells [.ptr w 0]))) _
 generalize hg' : upd g b (some (.cells [.ptr w 0])) = g' at *
 generalize hh' : upd h b (some (.cells [.ptr w 0])) = h' at *
 have hb' : h' b = some (.cells [.ptr w 0]) := by rw [← hh', upd_same]
 have gb' : g' b = some (.cells [.ptr w 0]) := by rw [← hg', upd_same]
 apply s_regX [b, w] [.B, .B, .A, .A, .B, .A, .A, .A, .A, .A, .D] (by
  intro id hid
  simp only [List.mem_cons, List.not_mem_nil, or_false] at hid
  rcases hid with rfl | rfl
  ·rw [hb']; simp
  ·rw [hv]; simp) rfl
 apply x_ld rfl rfl hb' (by simp) rfl
 apply x_ld rfl rfl hb' (by simp) rfl
 apply x_v rfl rfl trivial
 apply x_v rfl rfl trivial
 apply x_ld rfl rfl hv (by simp) rfl
 apply x_v rfl rfl trivial
 apply x_v rfl rfl trivial
 have O1 : OSl g 1 v (ubs bs) bs.length (killL [b, w] h') := by
  refine O.kill (hx2.trans (.upd H'.fresh)) ?_
  intro id hid
  simp only [List.mem_cons, List.not_mem_nil, or_false] at hid
  rcases hid with rfl | rfl
  ·exact ⟨by rw [upd_ne hwb.symm, gb']; simp, hgb⟩
  ·exact ⟨by rw [upd_same]; simp, H.fresh⟩
 refine x_A (R := fun E' bx' h1 => ∃ v2, E' = (13, v2) :: _ ∧ bx' = [b] ∧ OSl g 1 v2 (ubs (bs ++ eText x.name)) (bs ++ eText x.name).length h1) (o_hcall rfl rfl rfl rfl (p95 (s := x.name) O1 (by simp only [List.length_append]; omega)) fun v2 h1 O2 => o_nil ⟨rfl, v2, rfl, rfl, O2⟩) ?_
 rintro _ _ h1 ⟨v2, rfl, rfl, O2⟩ hS1
 apply x_v rfl rfl trivial
 apply x_v rfl rfl trivial
 have O3 : OSl (upd g' w (some (.cells [v]))) 1 v2 (ubs (bs ++ eText x.name)) (bs ++ eText x.name).length (joinS [b, w] h' h1) := by
  refine O2.join O.ext hS1 fun id hid => ?_
  simp only [List.mem_cons, List.not_mem_nil, or_false, not_or] at hid
  rw [upd_ne hid.2, ← hg', upd_ne hid.1]
 obtain ⟨hw2, W2⟩ := Wr.put H'.fresh O3
 refine x_D (R := fun E' bx' h2 => E' = _ ∧ bx' = [b] ∧ h2 = upd (joinS [b, w] h' h1) w (some (.cells [v2]))) (o_st1 rfl rfl rfl rfl O3.view.one hw2 Nat.zero_lt_one (o_nil ⟨rfl, rfl, rfl, rfl⟩)) ?_
 rintro _ _ _ ⟨rfl, rfl, rfl⟩
 refine ⟨?_, ?_⟩
 ·intro id hid
  simp only [List.mem_cons, List.not_mem_nil, or_false] at hid
  rcases hid with rfl | rfl
  ·rw [upd_ne hwb.symm]
   rw [O3.ext id _ (by rw [upd_ne hwb.symm]; exact gb')]
   simp
  ·rw [upd_same]; simp
 apply x_nil
 generalize upd (joinS [b, w] h' h1) w (some (.cells [v2])) = hh3 at W2 ⊢
 refine tV ?_
 refine tw ?_
 refine tV ?_
 refine s_loop (fun k : Nat => [(2, .ptr b 0), (3, .tptr [.str x.name, I x.super, I x.init, vr, vs, vt, vf, I x.array, I x.elem, .bool x.thrown] 0), (24, .agg ([x.super, x.init, x.array, x.elem].map I)), (25, .int .i64 (k : Int))]) (fun k h => k ≤ 4 ∧ Wr g' w (bs ++ eText x.name ++ ([x.super, x.init, x.array, x.elem].take k).flatMap put) h) (fun k => 4 - k) 0
  tU ⟨Nat.zero_le _, by simpa using W2⟩ ?_
 rintro k h2 ⟨hk, H2⟩
 refine tV ?_
 (refine tG ?_; refine oB fun b hb => ?_; cases b)
 case true =>
  have hk4 : k < [x.super, x.init, x.array, x.elem].length := by simp at hb; show k < 4; omega
  refine tV ?_
  apply o_as (w := I ([x.super, x.init, x.array, x.elem][k])) rfl rfl ⟨by omega, (show (k : Int) < 4 by have : k < 4 := hk4; omega), by simpa using hk4⟩ (get_ints hk4)
  refine tV ?_
  apply o_ldh rfl rfl (H2.ext b _ gb') (fun h => by omega) rfl
  refine tV ?_
  apply o_hcall rfl rfl rfl rfl (p42 (n := [x.super, x.init, x.array, x.elem][k]) (hF4 _ (List.getElem_mem hk4)) _ h2 H2 (by have := flat_le put hk4; simp only [List.length_append] at this ⊢; omega))
  rintro _ h3 ⟨rfl, H3⟩
  refine tW ?_
  rw [w64 (n := (k : Int) + 1) (by omega) (by omega)]
  refine ⟨k + 1, (show 4 - (k + 1) < 4 - k by have : k < 4 := hk4; omega), tU, rfl, hk4, ?_⟩
  rw [flat_succ put hk4, ← List.append_assoc]
  exact H3
 have hk4 : k = 4 := by simp at hb; omega
 subst hk4
 have H3 : Wr g' w (bs ++ eText x.name ++ [x.super, x.init, x.array, x.elem].flatMap put) h2 := H2
 refine tV ?_
 apply o_ldh rfl rfl (H3.ext b _ gb') (fun h => by omega) rfl
 refine tV ?_
 apply o_hcall rfl rfl rfl rfl (p47 (b := x.thrown) _ h2 H3 (by simp only [List.length_append]; omega))
 rintro _ h4 ⟨rfl, H4⟩
 refine tV ?_
 apply o_ldh rfl rfl (H4.ext b _ gb') (fun h => by omega) rfl
 refine tV ?_
 apply o_ldh rfl rfl (H4.ext b _ gb') (fun h => by omega) rfl
 refine tV ?_
 apply o_hcall rfl rfl rfl rfl (p46 (e := eTruth) (v1.mono RB.mono hx2) hw.refs (fun a _ g' _ => p47) _ h4 H4 (by simp only [List.length_append]; omega))
 rintro _ h5 ⟨rfl, H5⟩
 refine tV ?_
 apply o_ldh rfl rfl (H5.ext b _ gb') (fun h => by omega) rfl
 refine tV ?_
 apply o_ldh rfl rfl (H5.ext b _ gb') (fun h => by omega) rfl
 refine tV ?_
 apply o_hcall rfl rfl rfl rfl (p43 (e := put) (v2'.mono RN.mono hx2) hw.subs.1 (fun a ha g' _ => p42 (hw.subs.2 a ha)) _ h5 H5 (by simp only [List.length_append]; omega))
 rintro _ h6 ⟨rfl, H6⟩
 refine tV ?_
 apply o_ldh rfl rfl (H6.ext b _ gb') (fun h => by omega) rfl
 refine tV ?_
 apply o_ldh rfl rfl (H6.ext b _ gb') (fun h => by omega) rfl
 refine tV ?_
 apply o_hcall rfl rfl rfl rfl (p43 (e := put) (v3.mono RN.mono hx2) hw.slots.1 (fun a ha g' _ => p42 (hw.slots.2 a ha)) _ h6 H6 (by simp only [List.length_append]; omega))
 rintro _ h7 ⟨rfl, H7⟩
 refine tV ?_
 apply o_ldh rfl rfl (H7.ext b _ gb') (fun h => by omega) rfl
 refine tV ?_
 apply o_hcall rfl rfl rfl rfl (p96 (e := ePair) (v4.mono RPair.mono hx2) hw.faces.1 (fun a ha g'' c hx hc => p97 hc (hw.faces.2 a ha).1 (hw.faces.2 a ha).2 (hx b _ gb')) _ h7 H7 (by simp only [List.length_append]; omega))
 rintro _ h8 ⟨rfl, H8⟩
 simp only [List.append_assoc] at H8
 have hbx : ∀ i ∈ [b], g' i ≠ none ∧ g i = none := by
  intro i hi
  simp only [List.mem_cons, List.not_mem_nil, or_false] at hi
  subst hi
  exact ⟨by rw [gb']; simp, hgb⟩
 refine tW ?_
 (first | apply hx_ret | apply hx_norm)
 ·exact (rfl : resE _ [] = some [])
 ·exact rfl
 ·exact ⟨rfl, H8.kill hx2 hbx⟩
 ·exact fun _ => .inr ⟨w, H.changed (H8.base hx2) (by intro h; unfold eText at h; simp only [List.append_assoc] at h; exact put_ne _ (List.append_eq_nil_iff.1 h).1)⟩
end Go.Proofs
end
