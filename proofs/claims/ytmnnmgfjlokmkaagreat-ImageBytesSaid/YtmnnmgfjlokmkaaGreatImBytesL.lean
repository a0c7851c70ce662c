import Derived.Test.YtmnnmgfjlokmkaaGreatImRefSum
import Derived.Test.YtmnnmgfjlokmkaaGreatImRun
import Derived.Test.YtmnnmgfjlokmkaaGreatImCrc
import Derived.Test.YtmnnmgfjlokmkaaGreatAbsLaw
section
open Go Go.Abs Go.Proofs.SlimCode Go.Img
set_option maxRecDepth 100000
namespace Go.Proofs
theorem enc_eq (m : Image) : encode m = (Img.head ++ four (encode m).length) ++ (Img.body m ++ (four (crc (front m))).reverse) := by
  have : (4 + 4 + (Img.body m).length + 4) = (encode m).length := by rw [encode_len]; unfold size; omega
  conv => lhs; unfold encode sealed
  rw [← this]
  conv => lhs; lhs; unfold front
  simp only [List.append_assoc]
theorem enc_get {m : Image} {j : Nat} (hj : j < 8) (h8 : 8 ≤ (encode m).length) : (encode m)[j]'(by omega) = (Img.head ++ four (encode m).length)[j]'(by simp [Img.head, four]; omega) := by
  have h2 : (encode m)[j]? = ((Img.head ++ four (encode m).length) ++ (Img.body m ++ (four (crc (front m))).reverse))[j]? := congrArg (·[j]?) (enc_eq m)
  rw [List.getElem?_append_left (by simp [Img.head, four]; omega), List.getElem?_eq_getElem (by omega), List.getElem?_eq_getElem (by simp [Img.head, four]; omega)] at h2
  exact Option.some.inj h2
theorem enc_take4 (m : Image) : ((ubs (encode m)).take 4) = ubs Img.head := by
  rw [enc_eq m]
  simp [ubs, Img.head]
theorem enc_front (m : Image) : (ubs (encode m)).take ((encode m).length - 4) = ubs (front m) := by
  have : (encode m).length - 4 = (front m).length := by
    rw [encode_len, front_len]; unfold size; omega
  rw [this]
  unfold ubs encode sealed
  rw [List.map_append, List.take_left' (by simp)]
theorem enc_back {m : Image} {j : Nat} (hj : j < 4) (h : (encode m).length - 4 + j < (encode m).length) : (encode m)[(encode m).length - 4 + j] = (four (crc (front m))).reverse[j]'(by simp [four]; omega) := by
  have : (encode m).length - 4 = (front m).length := by
    rw [encode_len, front_len]; unfold size; omega
  have h2 : (encode m)[(encode m).length - 4 + j]? = (front m ++ (four (crc (front m))).reverse)[(front m).length + j]? := by rw [this]; rfl
  rw [List.getElem?_append_right (by omega), List.getElem?_eq_getElem h, Nat.add_sub_cancel_left, List.getElem?_eq_getElem (by simp [four]; omega)] at h2
  exact Option.some.inj h2
theorem byte_at {bs : B} {i : Nat} (hi : i < bs.length) : ((ubs bs).drop ((i : Int).toNat * 1)).take 1 = [ub bs[i]] := by
  rw [Int.toNat_natCast, Nat.mul_one]
  unfold ubs
  rw [List.drop_eq_getElem_cons (by simpa using hi)]
  simp
theorem byte_ptr {h : Heap} {p : AV} {bs : B} {z : Int} {i : Nat} (hz : z = (i : Int)) (hi : i < bs.length) (hp : VPtr h p (((ubs bs).drop (z.toNat * 1)).take 1)) : VPtr h p [ub bs[i]] := by
  subst hz
  rwa [byte_at hi] at hp
theorem shl64 {a k : Nat} {z : Int} (hz : z = (k : Int)) (ha : a < 256) (hk : k ≤ 24) : AV.int .i64 (IntKind.wrap .i64 ((a : Int) * 2 ^ (min z.toNat (IntKind.bits .i64)))) = .int .i64 ((a * 2 ^ k : Nat) : Int) := by
  subst hz
  have e : min (k : Int).toNat (IntKind.bits .i64) = k := by
    rw [Int.toNat_natCast]
    exact Nat.min_eq_left (by show k ≤ 64; omega)
  have h2 : 2 ^ k ≤ 2 ^ 24 := Nat.pow_le_pow_right (by decide) hk
  have h3 : a * 2 ^ k ≤ 256 * 2 ^ 24 := Nat.mul_le_mul (by omega) h2
  rw [e, show (a : Int) * 2 ^ k = ((a * 2 ^ k : Nat) : Int) by push_cast; rfl, w64 (by omega) (by omega)]
theorem rev_at {c i : Nat} (hi : i < 4) : ((four c).reverse[i]'(by simp [four]; omega)).toNat = c / 2 ^ (8 * i) % 256 := by
  match i with
  | 0 => show (UInt8.ofNat c).toNat = _; simp
  | 1 => show (UInt8.ofNat (c / 256)).toNat = _; simp
  | 2 => show (UInt8.ofNat (c / 65536)).toNat = _; simp
  | 3 => show (UInt8.ofNat (c / 16777216)).toNat = _; simp
  | _ + 4 => omega
theorem wrapu8 {a : Nat} : IntKind.wrap .u8 (a : Int) = ((a % 256 : Nat) : Int) := by
  simp [IntKind.wrap, IntKind.bits, IntKind.signed]
theorem or64 {a b : Nat} (ha : a < 2 ^ 63) (hb : b < 2 ^ 63) : AV.int .i64 (IntKind.wrap .i64 ((BitVec.ofInt (IntKind.bits .i64) (a : Int) ||| BitVec.ofInt (IntKind.bits .i64) (b : Int)).toNat)) = .int .i64 ((a ||| b : Nat) : Int) := by
  show AV.int .i64 (IntKind.wrap .i64 ((BitVec.ofInt 64 (a : Int) ||| BitVec.ofInt 64 (b : Int)).toNat)) = _
  have e : ∀ x : Nat, BitVec.ofInt 64 (x : Int) = BitVec.ofNat 64 x := fun x => BitVec.ofInt_natCast ..
  rw [e, e, BitVec.toNat_or, BitVec.toNat_ofNat, BitVec.toNat_ofNat, Nat.mod_eq_of_lt (by omega), Nat.mod_eq_of_lt (by omega)]
  have := Nat.or_lt_two_pow ha hb
  rw [w64 (by omega) (by omega)]
theorem four_or {n : Nat} (hn : n < 4294967296) : ((((UInt8.ofNat (n / 16777216)).toNat * 16777216 ||| (UInt8.ofNat (n / 65536)).toNat * 65536) ||| (UInt8.ofNat (n / 256)).toNat * 256) ||| (UInt8.ofNat n).toNat) = n := by
  have key : ∀ a b k : Nat, b < 2 ^ k → a * 2 ^ k ||| b = a * 2 ^ k + b := fun a b k hb => by
    rw [← Nat.shiftLeft_eq, ← Nat.shiftLeft_add_eq_or_of_lt hb]
  simp only [UInt8.toNat_ofNat']
  have h1 := key (n / 16777216 % 2 ^ 8) (n / 65536 % 2 ^ 8 * 65536) 24 (by omega)
  have h2 := key (n / 16777216 % 2 ^ 8 * 256 + n / 65536 % 2 ^ 8) (n / 256 % 2 ^ 8 * 256) 16 (by omega)
  have h3 := key (n / 16777216 % 2 ^ 8 * 65536 + n / 65536 % 2 ^ 8 * 256 + n / 256 % 2 ^ 8) (n % 2 ^ 8) 8 (by omega)
  have e1 : n / 16777216 % 2 ^ 8 * 16777216 ||| n / 65536 % 2 ^ 8 * 65536 = (n / 16777216 % 2 ^ 8 * 256 + n / 65536 % 2 ^ 8) * 2 ^ 16 := by
    refine Eq.trans h1 ?_
    omega
  have e2 : (n / 16777216 % 2 ^ 8 * 256 + n / 65536 % 2 ^ 8) * 2 ^ 16 ||| n / 256 % 2 ^ 8 * 256 = (n / 16777216 % 2 ^ 8 * 65536 + n / 65536 % 2 ^ 8 * 256 + n / 256 % 2 ^ 8) * 2 ^ 8 := by
    refine Eq.trans h2 ?_
    omega
  rw [e1, e2, h3]
  omega
theorem p4 {h : Heap} {c : List AV} {m0 : Image} (hc : RImg h c m0) (hw0 : m0.Wide) : HCallC Tryz.prog ann 4 [.agg c] h fun v h' => v = .bool true ∧ Ext h h' := by
  have hone := hc.one
  have hcl : c.length = 9 := by obtain ⟨_, _, _, _, _, _, _, rfl, _⟩ := hc; rfl
  refine (show Looks _ _ _ _ _ _ from ?_).go
  refine s_look_of rfl Tryz.func4 (frc (by with_unfolding_all rfl)) rfl ?_
  (repeat ((with_reducible first | apply s_seq | apply s_reg0)))
  apply o_val rfl rfl hone
  (repeat (first | ((with_reducible apply o_valM); exact rfl; exact rfl; exact rfl; exact trivial) | (with_reducible first | apply s_seq | apply s_reg0 | apply o_nil | apply ssq_norm)))
  ((with_reducible apply o_call); exact rfl; exact rfl; exact rfl; exact p14)
  (repeat (first | ((with_reducible apply o_valW); exact rfl; exact rfl; exact rfl; exact trivial) | (with_reducible first | apply s_seq | apply s_reg0 | apply s_skip | apply o_nil | apply ssq_norm) | ((with_reducible apply s_condF); exact rfl)))
  apply o_val rfl (show sv _ (.ld _ (some 9)) = some (True, .agg c) by show (match sliceL c 0 9 with | some l => some (True, AV.agg l) | none => none) = _; rw [sliceL_all hcl]) trivial
  apply o_hcall rfl rfl rfl rfl (p15 hc hw0)
  rintro _ h1 ⟨hx1, c', m, rfl, hcm, hw, hs⟩
  have hlb := small_len hw hs
  apply o_hcall rfl rfl rfl rfl (p16 hcm hw (by omega))
  intro b h2 hb
  have hsz : size m ≤ 1048576 := by unfold size; omega
  rcases hb with ⟨_, O⟩ | ⟨hb, _⟩
  rotate_left
  · omega
  have hx2 := hx1.trans O.ext
  have hv := O.view
  have hn : (encode m).length = size m := encode_len m
  have h12 : 12 ≤ (encode m).length := by rw [hn]; unfold size; omega
  (repeat (first | ((with_reducible apply o_valM); exact rfl; exact rfl; exact rfl; exact trivial) | (with_reducible first | apply s_seq | apply s_reg0 | apply o_nil | apply ssq_norm)))
  apply o_lenV rfl rfl hv
  (repeat (first | ((with_reducible apply o_valM); exact rfl; exact rfl; exact rfl; exact trivial) | (with_reducible first | apply s_seq | apply s_reg | apply o_nil | apply ssq_norm)))
  ((with_reducible apply o_bool); exact rfl; exact rfl; exact trivial; intro b21 h21)
  have e1 : b21 = false := by rw [h21]; exact decide_eq_false (by omega)
  subst e1
  (repeat (first | ((with_reducible apply o_valM); exact rfl; exact rfl; exact rfl; exact trivial) | ((with_reducible apply o_guardT); exact rfl; exact rfl)))
  apply o_sltV rfl rfl hv rfl rfl (by omega) (by omega) (by omega)
  intro w hwv
  (try ((with_reducible apply o_guardT); exact rfl; exact rfl))
  have hhd : ((ubs (encode m)).take ((4 : Int).toNat * 1)).drop ((0 : Int).toNat * 1) = ubs Img.head := enc_take4 m
  rw [hhd] at hwv
  apply o_b2sV rfl rfl hwv (fun _ => .refl)
  (repeat ((with_reducible apply o_guardT); exact rfl; exact rfl))
  ((with_reducible apply o_bool); exact rfl; exact rfl; exact trivial; intro b22 h22)
  have e2 : b22 = false := by rw [h22]; rfl
  subst e2
  have hlt : (encode m).length < 4294967296 := by omega
  have hfo := four_or hlt
  obtain ⟨x4, ex4⟩ : ∃ x, x = (UInt8.ofNat ((encode m).length / 16777216)).toNat := ⟨_, rfl⟩
  obtain ⟨x5, ex5⟩ : ∃ x, x = (UInt8.ofNat ((encode m).length / 65536)).toNat := ⟨_, rfl⟩
  obtain ⟨x6, ex6⟩ : ∃ x, x = (UInt8.ofNat ((encode m).length / 256)).toNat := ⟨_, rfl⟩
  obtain ⟨x7, ex7⟩ : ∃ x, x = (UInt8.ofNat (encode m).length).toNat := ⟨_, rfl⟩
  rw [← ex4, ← ex5, ← ex6, ← ex7] at hfo
  have hx4 : x4 < 256 := by rw [ex4]; exact UInt8.toNat_lt _
  have hx5 : x5 < 256 := by rw [ex5]; exact UInt8.toNat_lt _
  have hx6 : x6 < 256 := by rw [ex6]; exact UInt8.toNat_lt _
  have hx7 : x7 < 256 := by rw [ex7]; exact UInt8.toNat_lt _
  have o1 : x4 * 2 ^ 24 ||| x5 * 2 ^ 16 < 2 ^ 63 := Nat.or_lt_two_pow (by omega) (by omega)
  have o2 : x4 * 2 ^ 24 ||| x5 * 2 ^ 16 ||| x6 * 2 ^ 8 < 2 ^ 63 := Nat.or_lt_two_pow o1 (by omega)
  (repeat (first | ((with_reducible apply o_valM); exact rfl; exact rfl; exact rfl; exact trivial) | ((with_reducible apply o_guardT); exact rfl; exact rfl)))
  (try ((with_reducible apply o_guardT); exact rfl; exact rfl))
  apply o_iaV rfl rfl rfl hv (by omega) (by omega)
  intro p4 hp4
  replace hp4 := byte_ptr (i := 4) rfl (by omega) hp4
  rw [enc_get (by decide) (by omega)] at hp4
  replace hp4 : VPtr h2 p4 [.int .u8 ((x4 : Nat) : Int)] := by rw [ex4]; exact hp4
  (try ((with_reducible apply o_guardT); exact rfl; exact rfl))
  apply o_ldV rfl rfl hp4 (fun _ => .refl)
  ((try ((with_reducible apply o_guardT); exact rfl; exact rfl)); (with_reducible apply o_cvN (a := x4)); exact rfl; exact rfl; exact w64 (by omega) (by omega))
  (try ((with_reducible apply o_guardT); exact rfl; exact rfl))
  apply o_as (w := .int .i64 ((x4 * 2 ^ 24 : Nat) : Int)) rfl rfl (by decide) (shl64 (k := 24) rfl hx4 (by decide))
  (repeat (first | ((with_reducible apply o_valM); exact rfl; exact rfl; exact rfl; exact trivial) | ((with_reducible apply o_guardT); exact rfl; exact rfl)))
  (try ((with_reducible apply o_guardT); exact rfl; exact rfl))
  apply o_iaV rfl rfl rfl hv (by omega) (by omega)
  intro p5 hp5
  replace hp5 := byte_ptr (i := 5) rfl (by omega) hp5
  rw [enc_get (by decide) (by omega)] at hp5
  replace hp5 : VPtr h2 p5 [.int .u8 ((x5 : Nat) : Int)] := by rw [ex5]; exact hp5
  (try ((with_reducible apply o_guardT); exact rfl; exact rfl))
  apply o_ldV rfl rfl hp5 (fun _ => .refl)
  ((try ((with_reducible apply o_guardT); exact rfl; exact rfl)); (with_reducible apply o_cvN (a := x5)); exact rfl; exact rfl; exact w64 (by omega) (by omega))
  (try ((with_reducible apply o_guardT); exact rfl; exact rfl))
  apply o_as (w := .int .i64 ((x5 * 2 ^ 16 : Nat) : Int)) rfl rfl (by decide) (shl64 (k := 16) rfl hx5 (by decide))
  (try ((with_reducible apply o_guardT); exact rfl; exact rfl))
  apply o_as (w := .int .i64 ((x4 * 2 ^ 24 ||| x5 * 2 ^ 16 : Nat) : Int)) rfl rfl trivial (or64 (by omega) (by omega))
  (repeat (first | ((with_reducible apply o_valM); exact rfl; exact rfl; exact rfl; exact trivial) | ((with_reducible apply o_guardT); exact rfl; exact rfl)))
  (try ((with_reducible apply o_guardT); exact rfl; exact rfl))
  apply o_iaV rfl rfl rfl hv (by omega) (by omega)
  intro p6 hp6
  replace hp6 := byte_ptr (i := 6) rfl (by omega) hp6
  rw [enc_get (by decide) (by omega)] at hp6
  replace hp6 : VPtr h2 p6 [.int .u8 ((x6 : Nat) : Int)] := by rw [ex6]; exact hp6
  (try ((with_reducible apply o_guardT); exact rfl; exact rfl))
  apply o_ldV rfl rfl hp6 (fun _ => .refl)
  ((try ((with_reducible apply o_guardT); exact rfl; exact rfl)); (with_reducible apply o_cvN (a := x6)); exact rfl; exact rfl; exact w64 (by omega) (by omega))
  (try ((with_reducible apply o_guardT); exact rfl; exact rfl))
  apply o_as (w := .int .i64 ((x6 * 2 ^ 8 : Nat) : Int)) rfl rfl (by decide) (shl64 (k := 8) rfl hx6 (by decide))
  (try ((with_reducible apply o_guardT); exact rfl; exact rfl))
  apply o_as (w := .int .i64 (((x4 * 2 ^ 24 ||| x5 * 2 ^ 16) ||| x6 * 2 ^ 8 : Nat) : Int)) rfl rfl trivial (or64 (by omega) (by omega))
  (repeat (first | ((with_reducible apply o_valM); exact rfl; exact rfl; exact rfl; exact trivial) | ((with_reducible apply o_guardT); exact rfl; exact rfl)))
  (try ((with_reducible apply o_guardT); exact rfl; exact rfl))
  apply o_iaV rfl rfl rfl hv (by omega) (by omega)
  intro p7 hp7
  replace hp7 := byte_ptr (i := 7) rfl (by omega) hp7
  rw [enc_get (by decide) (by omega)] at hp7
  replace hp7 : VPtr h2 p7 [.int .u8 ((x7 : Nat) : Int)] := by rw [ex7]; exact hp7
  (try ((with_reducible apply o_guardT); exact rfl; exact rfl))
  apply o_ldV rfl rfl hp7 (fun _ => .refl)
  ((try ((with_reducible apply o_guardT); exact rfl; exact rfl)); (with_reducible apply o_cvN (a := x7)); exact rfl; exact rfl; exact w64 (by omega) (by omega))
  (try ((with_reducible apply o_guardT); exact rfl; exact rfl))
  apply o_as (w := .int .i64 (((x4 * 2 ^ 24 ||| x5 * 2 ^ 16 ||| x6 * 2 ^ 8) ||| x7 : Nat) : Int)) rfl rfl trivial (or64 (by omega) (by omega))
  ((with_reducible apply o_guardT); exact rfl; exact rfl)
  ((with_reducible apply o_valM); exact rfl; exact rfl; exact rfl; exact trivial)
  ((try ((with_reducible apply o_guardT); exact rfl; exact rfl)); (with_reducible apply o_bool); exact rfl; exact rfl; exact trivial; intro b23 h23)
  have e3 : b23 = false := by
    rw [h23]
    have : (((x4 * 2 ^ 24 ||| x5 * 2 ^ 16 ||| x6 * 2 ^ 8 ||| x7 : Nat) : Int)) = (((encode m).length : Nat) : Int) := congrArg Nat.cast hfo
    rw [this]
    simp
  subst e3
  (repeat (first | ((with_reducible apply o_valM); exact rfl; exact rfl; exact rfl; exact trivial) | (with_reducible first | apply s_seq | apply s_reg0 | apply s_skip | apply o_nil | apply ssq_norm) | ((with_reducible apply s_condF); exact rfl)))
  ((with_reducible apply o_subN (a := (encode m).length) (b := 4)); exact rfl; exact rfl; exact rfl; (omega); exact w64 (by omega) (by omega))
  apply o_sltV rfl rfl hv rfl rfl (by omega) (by omega) (by omega)
  intro w2 hwv2
  have hfr : ((ubs (encode m)).take ((((encode m).length - 4 : Nat) : Int).toNat * 1)).drop ((0 : Int).toNat * 1) = ubs (front m) := by
    rw [Int.toNat_natCast, Nat.mul_one ((encode m).length - 4)]
    exact enc_front m
  have hfl : (((encode m).length - 4 : Nat) : Int).toNat - (0 : Int).toNat = (front m).length := by
    rw [Int.toNat_natCast, encode_len, front_len]; unfold size
    show 12 + _ - 4 - 0 = _
    omega
  rw [hfr, hfl] at hwv2
  apply o_hcall rfl rfl rfl rfl (p20 hwv2 (by rw [front_len]; omega)).go
  rintro _ h3 ⟨rfl, hx3⟩
  have hv3 := hv.mono hx3
  clear hwv hwv2 hp4 hp5 hp6 hp7
  have hcr : crc (front m) < 4294967296 := crc_lt _
  (repeat (first | ((with_reducible apply o_valM); exact rfl; exact rfl; exact rfl; exact trivial) | (with_reducible first | apply s_seq | apply s_reg0 | apply s_block | apply o_nil | apply ssq_norm)))
  refine s_loop (fun i : Nat => [(4, b), (5, .int .i64 ((encode m).length : Int)), (6, .int .u32 (crc (front m) : Int)), (7, .int .i64 (i : Int))]) (fun i h' => h' = h3 ∧ i ≤ 4) (fun i => 4 - i) 0
    (sub_cons rfl (sub_cons rfl (sub_cons rfl (sub_cons rfl sub_nil)))) ⟨rfl, Nat.zero_le _⟩ ?_
  rintro i h' ⟨rfl, hi⟩
  (repeat (first | ((with_reducible apply o_valM); exact rfl; exact rfl; exact rfl; exact trivial) | (with_reducible first | apply s_seq | apply s_reg0)))
  ((with_reducible apply o_bool); exact rfl; exact rfl; exact trivial; intro b27 h27; cases b27)
  case false =>
    (repeat (first | ((with_reducible apply o_valM); exact rfl; exact rfl; exact rfl; exact trivial) | (with_reducible first | apply s_seq | apply s_reg0 | apply s_exit | apply s_ret | apply o_nil | apply ssq_norm | apply ssq_exit | apply sbq_hit | apply slq_exit) | ((with_reducible apply s_condF); exact rfl)))
    (first | apply lret_ret | apply lret_norm)
    · exact rfl
    · exact rfl
    · exact rfl
    · exact hx2.trans hx3
    · simp
  have hil : i < 4 := by simp at h27; omega
  (repeat (first | (with_reducible first | apply s_seq | apply s_reg0 | apply s_skip | apply s_block | apply o_nil | apply ssq_norm) | ((with_reducible apply s_condT); exact rfl)))
  ((with_reducible apply o_valM); exact rfl; exact rfl; exact rfl; exact trivial)
  ((with_reducible apply o_valM); exact rfl; exact rfl; exact rfl; exact trivial)
  ((with_reducible apply o_subN (a := (encode m).length) (b := 4)); exact rfl; exact rfl; exact rfl; (omega); exact w64 (by omega) (by omega))
  ((with_reducible apply o_valM); exact rfl; exact rfl; exact rfl; exact trivial)
  ((with_reducible apply o_addN (a := (encode m).length - 4) (b := i)); exact rfl; exact rfl; exact rfl; exact w64 (by omega) (by omega))
  apply o_iaV rfl rfl rfl hv3 (by omega) (by omega)
  intro p hp
  replace hp := byte_ptr (i := (encode m).length - 4 + i) rfl (by omega) hp
  rw [enc_back hil (by omega)] at hp
  apply o_ldV rfl rfl hp (fun _ => .refl)
  ((with_reducible apply o_valM); exact rfl; exact rfl; exact rfl; exact trivial)
  ((with_reducible apply o_valM); exact rfl; exact rfl; exact rfl; exact trivial)
  ((with_reducible apply o_mulN (a := 8) (b := i)); exact rfl; exact rfl; exact rfl; exact w64 (by omega) (by omega))
  ((with_reducible apply o_cvN (a := 8 * i)); exact rfl; exact rfl; exact wu64 (by omega) (by omega))
  apply o_shrN (a := crc (front m)) (b := 8 * i) rfl rfl rfl (by show 8 * i ≤ 32; omega)
  apply o_as (w := .int .u8 ((crc (front m) / 2 ^ (8 * i) % 256 : Nat) : Int)) rfl rfl trivial (congrArg _ wrapu8)
  ((with_reducible apply o_bool); exact rfl; exact rfl; exact trivial; intro b28 h28)
  have e4 : b28 = false := by
    rw [h28]
    have : ((((four (crc (front m))).reverse[i]'(by simp [four]; omega)).toNat : Nat) : Int) = ((crc (front m) / 2 ^ (8 * i) % 256 : Nat) : Int) := congrArg Nat.cast (rev_at hil)
    simp only [this]
    simp
  subst e4
  (repeat (first | ((with_reducible apply o_valW); exact rfl; exact rfl; exact rfl; exact trivial) | (with_reducible first | apply s_reg0 | apply s_skip | apply o_nil | apply ssq_norm | apply sbq_norm) | ((with_reducible apply s_condF); exact rfl)))
  rw [w64 (n := (i : Int) + 1) (by omega) (by omega)]
  exact ⟨i + 1, by simp only; omega, sub_cons rfl (sub_cons rfl (sub_cons rfl (sub_cons rfl sub_nil))), rfl, rfl, hil⟩
end Go.Proofs
end
section
open Go Go.Abs Go.Img
namespace Go.Proofs
set_option maxRecDepth 100000
def fsOf (P : Program) (t : TypeId) : Array Field := match P.underlying t with | some (.struct fs) => fs | _ => #[]
theorem tyc_st {P : Program} {k n : Nat} {t : TypeId} {cs : List AV} {l : List (TypeId × Nat × Nat)} (ht : P.underlying t = some (.struct (fsOf P t))) (hl : (fsOf P t).toList.map (fun f => (f.type, f.offset, P.cellsOf f.type)) = l) (hn : P.cellsOf t = n) (h : TyC P (k + 1) t cs) : cs.length = n ∧ ∀ p ∈ l, TyC P k p.1 ((cs.drop p.2.1).take p.2.2) := by
  obtain ⟨h1, h2⟩ := tyc_struct ht h
  refine ⟨h1.trans hn, fun p hp => ?_⟩
  subst hl
  obtain ⟨f, hf, rfl⟩ := List.mem_map.1 hp
  exact h2 f hf
theorem wf_i64 {n : Int} (h : (Lit.int .i64 n).wf = true) : I64 n := by
  simp [Lit.wf, IntKind.min, IntKind.max, IntKind.bits, IntKind.signed] at h
  unfold I64
  omega
theorem wf_i32 {n : Int} (h : (Lit.int .i32 n).wf = true) : I32 n := by
  simp [Lit.wf, IntKind.min, IntKind.max, IntKind.bits, IntKind.signed] at h
  unfold I32
  omega
theorem im_int {k : Nat} {l : List AV} (h : TyC Tryz.prog (k + 1) 3 l) : ∃ n, (∀ h : Heap, RN .i64 h l n) ∧ I64 n := by
  obtain ⟨n, rfl, hw⟩ := tyc_int (i := .i64) (by kernel_rfl) h
  exact ⟨n, fun _ => rfl, wf_i64 hw⟩
theorem im_i32 {k : Nat} {l : List AV} (h : TyC Tryz.prog (k + 1) 21 l) : ∃ n, (∀ h : Heap, RN .i32 h l n) ∧ I32 n := by
  obtain ⟨n, rfl, hw⟩ := tyc_int (i := .i32) (by kernel_rfl) h
  exact ⟨n, fun _ => rfl, wf_i32 hw⟩
theorem im_bool {k : Nat} {l : List AV} (h : TyC Tryz.prog (k + 1) 4 l) : ∃ b, (∀ h : Heap, RB h l b) ∧ True := by
  obtain ⟨b, rfl⟩ := tyc_bool (by kernel_rfl) h
  exact ⟨b, fun _ => rfl, trivial⟩
theorem im_pair {k : Nat} {l : List AV} (hl : l.length = 2) (h : TyC Tryz.prog (k + 2) 54 l) : ∃ p, (∀ h : Heap, RPair h l p) ∧ (I64 p.1 ∧ I64 p.2) := by
  obtain ⟨_, h2⟩ := tyc_array (n := 2) (e := 3) (by kernel_rfl) h
  have e3 : Tryz.prog.cellsOf 3 = 1 := by kernel_rfl
  match l, hl with
  | [a, b], _ =>
    have f0 := h2 0 (by decide)
    have f1 := h2 1 (by decide)
    simp only [e3] at f0 f1
    obtain ⟨x, hx, wx⟩ := im_int f0
    obtain ⟨y, hy, wy⟩ := im_int f1
    have ex : a = I x := List.cons.inj (hx fun _ => none) |>.1
    have ey : b = I y := List.cons.inj (hy fun _ => none) |>.1
    subst ex ey
    exact ⟨(x, y), fun _ => rfl, wx, wy⟩
theorem four_of {k : Nat} {l : List AV} (hl : l.length = 4) (h : ∀ p ∈ [((3 : TypeId), 0, 1), (3, 1, 1), (3, 2, 1), (3, 3, 1)], TyC Tryz.prog (k + 1) p.1 ((l.drop p.2.1).take p.2.2)) : ∃ p, (∀ h : Heap, RFour h l p) ∧ F64 p := by
  match l, hl with
  | [a, b, c, d], _ =>
    obtain ⟨x, hx, wx⟩ := im_int (h _ (.head _))
    obtain ⟨y, hy, wy⟩ := im_int (h _ (.tail _ (.head _)))
    obtain ⟨z, hz, wz⟩ := im_int (h _ (.tail _ (.tail _ (.head _))))
    obtain ⟨u, hu, wu⟩ := im_int (h _ (.tail _ (.tail _ (.tail _ (.head _)))))
    have ex : a = I x := List.cons.inj (hx fun _ => none) |>.1
    have ey : b = I y := List.cons.inj (hy fun _ => none) |>.1
    have ez : c = I z := List.cons.inj (hz fun _ => none) |>.1
    have eu : d = I u := List.cons.inj (hu fun _ => none) |>.1
    subst ex ey ez eu
    exact ⟨(x, y, z, u), fun _ => rfl, wx, wy, wz, wu⟩
theorem im_ins {k : Nat} {l : List AV} (h : TyC Tryz.prog (k + 2) 56 l) : ∃ p, (∀ h : Heap, RFour h l p) ∧ F64 p := by
  obtain ⟨h1, h2⟩ := tyc_st (n := 4) (l := [((3 : TypeId), 0, 1), (3, 1, 1), (3, 2, 1), (3, 3, 1)]) (by kernel_rfl) (by kernel_rfl) (by kernel_rfl) h
  exact four_of h1 h2
theorem im_trap {k : Nat} {l : List AV} (h : TyC Tryz.prog (k + 2) 60 l) : ∃ p, (∀ h : Heap, RFour h l p) ∧ F64 p := by
  obtain ⟨h1, h2⟩ := tyc_st (n := 4) (l := [((3 : TypeId), 0, 1), (3, 1, 1), (3, 2, 1), (3, 3, 1)]) (by kernel_rfl) (by kernel_rfl) (by kernel_rfl) h
  exact four_of h1 h2
theorem im_ints {k : Nat} {l : List AV} (h : TyC Tryz.prog (k + 2) 24 l) : ∃ v x, l = [v] ∧ (∀ h, Sl (RN .i64) 1 h v x) ∧ Len x ∧ ∀ a ∈ x, I64 a := by
  obtain ⟨v, x, e, hx, hl, hw⟩ := tyc_list (e := 3) (s := 1) (by kernel_rfl) (by kernel_rfl) (fun l _ h => im_int h) h
  exact ⟨v, x, e, hx, hl, hw⟩
theorem im_i32s {k : Nat} {l : List AV} (h : TyC Tryz.prog (k + 2) 25 l) : ∃ v x, l = [v] ∧ (∀ h, Sl (RN .i32) 1 h v x) ∧ Len x ∧ ∀ a ∈ x, I32 a := by
  obtain ⟨v, x, e, hx, hl, hw⟩ := tyc_list (e := 21) (s := 1) (by kernel_rfl) (by kernel_rfl) (fun l _ h => im_i32 h) h
  exact ⟨v, x, e, hx, hl, hw⟩
theorem im_bools {k : Nat} {l : List AV} (h : TyC Tryz.prog (k + 2) 26 l) : ∃ v x, l = [v] ∧ (∀ h, Sl RB 1 h v x) ∧ Len x := by
  obtain ⟨v, x, e, hx, hl, _⟩ := tyc_list (e := 4) (s := 1) (W := fun _ => True) (by kernel_rfl) (by kernel_rfl) (fun l _ h => im_bool h) h
  exact ⟨v, x, e, hx, hl⟩
theorem im_cls {k : Nat} {l : List AV} (h : TyC Tryz.prog (k + 4) 48 l) : ∃ c, (∀ h : Heap, RCls h l c) ∧ c.Wide := by
  obtain ⟨h1, h2⟩ := tyc_st (k := k + 3) (n := 10) (l := [((9 : TypeId), 0, 1), (3, 1, 1), (3, 2, 1), (26, 3, 1), (24, 4, 1), (24, 5, 1), (46, 6, 1), (3, 7, 1), (3, 8, 1), (4, 9, 1)]) (by kernel_rfl) (by kernel_rfl) (by kernel_rfl) h
  match l, h1 with
  | [a0, a1, a2, a3, a4, a5, a6, a7, a8, a9], _ =>
    obtain ⟨s, q0, ws⟩ := tyc_str (by kernel_rfl) (h2 _ (.head _))
    obtain ⟨x1, q1, w1⟩ := im_int (h2 (3, 1, 1) (by simp))
    obtain ⟨x2, q2, w2⟩ := im_int (h2 (3, 2, 1) (by simp))
    obtain ⟨v3, x3, q3, r3, w3⟩ := im_bools (h2 (26, 3, 1) (by simp))
    obtain ⟨v4, x4, q4, r4, w4⟩ := im_ints (h2 (24, 4, 1) (by simp))
    obtain ⟨v5, x5, q5, r5, w5⟩ := im_ints (h2 (24, 5, 1) (by simp))
    obtain ⟨v6, x6, q6, r6, w6⟩ := tyc_list (k := k + 2) (e := 54) (s := 2) (R := RPair) (W := fun p => I64 p.1 ∧ I64 p.2) (by kernel_rfl) (by kernel_rfl) (fun l hl h => im_pair hl h) (h2 (46, 6, 1) (by simp))
    obtain ⟨x7, q7, w7⟩ := im_int (h2 (3, 7, 1) (by simp))
    obtain ⟨x8, q8, w8⟩ := im_int (h2 (3, 8, 1) (by simp))
    obtain ⟨x9, q9, _⟩ := im_bool (h2 (4, 9, 1) (by simp))
    have e0 : a0 = .str s := List.cons.inj q0 |>.1
    have e1 : a1 = I x1 := List.cons.inj (q1 fun _ => none) |>.1
    have e2 : a2 = I x2 := List.cons.inj (q2 fun _ => none) |>.1
    have e3 : a3 = v3 := List.cons.inj q3 |>.1
    have e4 : a4 = v4 := List.cons.inj q4 |>.1
    have e5 : a5 = v5 := List.cons.inj q5 |>.1
    have e6 : a6 = v6 := List.cons.inj q6 |>.1
    have e7 : a7 = I x7 := List.cons.inj (q7 fun _ => none) |>.1
    have e8 : a8 = I x8 := List.cons.inj (q8 fun _ => none) |>.1
    have e9 : a9 = .bool x9 := List.cons.inj (q9 fun _ => none) |>.1
    subst e0 e1 e2 e3 e4 e5 e6 e7 e8 e9
    exact ⟨⟨s, x1, x2, x7, x8, x9, x3, x4, x5, x6⟩, fun h => ⟨_, _, _, _, rfl, r3 h, r4 h, r5 h, r6 h⟩, ⟨ws, w1, w2, w7, w8, w3, w4, w5, w6⟩⟩
theorem im_mth {k : Nat} {l : List AV} (h : TyC Tryz.prog (k + 4) 53 l) : ∃ c, (∀ h : Heap, RMth h l c) ∧ c.WF := by
  obtain ⟨h1, h2⟩ := tyc_st (k := k + 3) (n := 6) (l := [((3 : TypeId), 0, 1), (3, 1, 1), (3, 2, 1), (4, 3, 1), (50, 4, 1), (51, 5, 1)]) (by kernel_rfl) (by kernel_rfl) (by kernel_rfl) h
  match l, h1 with
  | [a0, a1, a2, a3, a4, a5], _ =>
    obtain ⟨x0, q0, w0⟩ := im_int (h2 (3, 0, 1) (by simp))
    obtain ⟨x1, q1, w1⟩ := im_int (h2 (3, 1, 1) (by simp))
    obtain ⟨x2, q2, w2⟩ := im_int (h2 (3, 2, 1) (by simp))
    obtain ⟨x3, q3, _⟩ := im_bool (h2 (4, 3, 1) (by simp))
    obtain ⟨v4, x4, q4, r4, w4⟩ := tyc_list (k := k + 2) (e := 56) (s := 4) (R := RFour) (W := F64) (by kernel_rfl) (by kernel_rfl) (fun l _ h => im_ins h) (h2 (50, 4, 1) (by simp))
    obtain ⟨v5, x5, q5, r5, w5⟩ := tyc_list (k := k + 2) (e := 60) (s := 4) (R := RFour) (W := F64) (by kernel_rfl) (by kernel_rfl) (fun l _ h => im_trap h) (h2 (51, 5, 1) (by simp))
    have e0 : a0 = I x0 := List.cons.inj (q0 fun _ => none) |>.1
    have e1 : a1 = I x1 := List.cons.inj (q1 fun _ => none) |>.1
    have e2 : a2 = I x2 := List.cons.inj (q2 fun _ => none) |>.1
    have e3 : a3 = .bool x3 := List.cons.inj (q3 fun _ => none) |>.1
    have e4 : a4 = v4 := List.cons.inj q4 |>.1
    have e5 : a5 = v5 := List.cons.inj q5 |>.1
    subst e0 e1 e2 e3 e4 e5
    exact ⟨⟨x0, x1, x2, x3, x4, x5⟩, fun h => ⟨_, _, rfl, r4 h, r5 h⟩, ⟨w0, w1, w2, w4, w5⟩⟩
theorem ty_image {v : AV} (h : TyV Tryz.prog 6 28 v) : ∃ c m, v = .agg c ∧ (∀ h, RImg h c m) ∧ m.Wide := by
  obtain ⟨l, rfl, hc⟩ := ty_struct (fs := fsOf Tryz.prog 28) (by kernel_rfl) h
  obtain ⟨h1, h2⟩ := tyc_st (k := 5) (n := 9) (l := [((22 : TypeId), 0, 1), (23, 1, 1), (3, 2, 1), (3, 3, 1), (24, 4, 1), (25, 5, 1), (24, 6, 1), (25, 7, 1), (26, 8, 1)]) (by kernel_rfl) (by kernel_rfl) (by kernel_rfl) hc
  match l, h1 with
  | [a0, a1, a2, a3, a4, a5, a6, a7, a8], _ =>
    obtain ⟨v0, x0, q0, r0, w0⟩ := tyc_list (k := 4) (e := 48) (s := 10) (R := RCls) (W := Cls.Wide) (by kernel_rfl) (by kernel_rfl) (fun l _ h => im_cls h) (h2 (22, 0, 1) (by simp))
    obtain ⟨v1, x1, q1, r1, w1⟩ := tyc_list (k := 4) (e := 53) (s := 6) (R := RMth) (W := Mth.WF) (by kernel_rfl) (by kernel_rfl) (fun l _ h => im_mth h) (h2 (23, 1, 1) (by simp))
    obtain ⟨x2, q2, w2⟩ := im_int (h2 (3, 2, 1) (by simp))
    obtain ⟨x3, q3, w3⟩ := im_int (h2 (3, 3, 1) (by simp))
    obtain ⟨v4, x4, q4, r4, w4⟩ := im_ints (h2 (24, 4, 1) (by simp))
    obtain ⟨v5, x5, q5, r5, w5⟩ := im_i32s (h2 (25, 5, 1) (by simp))
    obtain ⟨v6, x6, q6, r6, w6⟩ := im_ints (h2 (24, 6, 1) (by simp))
    obtain ⟨v7, x7, q7, r7, w7⟩ := im_i32s (h2 (25, 7, 1) (by simp))
    obtain ⟨v8, x8, q8, r8, w8⟩ := im_bools (h2 (26, 8, 1) (by simp))
    have e0 : a0 = v0 := List.cons.inj q0 |>.1
    have e1 : a1 = v1 := List.cons.inj q1 |>.1
    have e2 : a2 = I x2 := List.cons.inj (q2 fun _ => none) |>.1
    have e3 : a3 = I x3 := List.cons.inj (q3 fun _ => none) |>.1
    have e4 : a4 = v4 := List.cons.inj q4 |>.1
    have e5 : a5 = v5 := List.cons.inj q5 |>.1
    have e6 : a6 = v6 := List.cons.inj q6 |>.1
    have e7 : a7 = v7 := List.cons.inj q7 |>.1
    have e8 : a8 = v8 := List.cons.inj q8 |>.1
    subst e0 e1 e2 e3 e4 e5 e6 e7 e8
    exact ⟨_, ⟨x0, x1, x2, x3, x4, x5, x6, x7, x8⟩, rfl, fun h => ⟨_, _, _, _, _, _, _, rfl, r0 h, r1 h, r4 h, r5 h, r6 h, r7 h, r8 h⟩, ⟨w0, w1, w2, w3, w4, w5, w6, w7, w8⟩⟩
theorem extok : ExtOK Tryz.prog SlimCode.ann := by
  intro f e h
  cases h
end Go.Proofs
end
section
open Go Go.Abs Go.Proofs.SlimCode Go.Img
namespace Go.Proofs
set_option maxRecDepth 100000
theorem run_of_h {A : Ann} {P : Program} {f : Nat} {vs : List AV} {Q : Heap → Prop} (h : HCallC P A f vs (fun _ => none) fun v h' => v = .bool true ∧ Q h') : ∃ n h' n' lg, callN P A n f vs (fun _ => none) 0 = some (.bool true, h', n', lg) := by
  obtain ⟨k, v, h', n', lg, e, rfl, _⟩ := h 0 (fun _ _ => rfl)
  exact ⟨k, h', n', lg, e⟩
theorem law_run (ps : List AV) (h : TyVs Tryz.prog 6 Tryz.f4.params.toList ps) : ∃ n h' n' lg, callN Tryz.prog ann n 4 ps (fun _ => none) 0 = some (.bool true, h', n', lg) := by
  obtain ⟨a, _, rfl, ha, rfl⟩ := h
  obtain ⟨c, m, rfl, hc, hw⟩ := ty_image ha
  exact run_of_h (p4 (hc _) hw)
end Go.Proofs
end
