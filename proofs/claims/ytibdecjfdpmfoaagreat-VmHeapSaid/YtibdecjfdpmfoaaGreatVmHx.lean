/- What is needed beside. -/
import Derived.Test.YtibdecjfdpmfoaaGreatVmBeg3
section
namespace Go.Abs
theorem d_sltE {P : Program} {A : Ann} {f nt q d s m : Nat} {E : Env} {bx : List Nat} {h : Ya} {Q : AX → Env → List Nat → Ya → Prop} {S : PS} {cls : List CD} {α : Type} {enc : α → List AV} {x y : SX} {r : List SO} {v : AV} {l : List α} {L : OL} {k : IntKind} (he : Enc enc s) (H0 : SlE enc s v l L) (hm : m ≤ l.length) (hlt : (decide (d < nt)) = true) (hx : ev (lk E) x = some v) (hy : ev (lk E) y = some (.int k (m : Int)))
    (H : ∀ w, SlE enc s w (l.take m) L → Xu P A f nt S (q - 1) cls r ((d, w) :: E) bx h Q) : Xu P A f nt S q (.C :: cls) (⟨some d, none, .slt x none (some y) s⟩ :: r) E bx h Q := by
  have ht := H0.take he hm
  rcases H0 with ⟨rfl, rfl, rfl⟩ | ⟨i, js, rfl, rfl⟩
  · obtain rfl : m = 0 := by simpa using hm
    exact d_v (p := (0 : Int) = 0 ∧ ((0 : Nat) : Int) = 0) rfl rfl hlt (by simp only [sv, hx, evI, hy]) ⟨rfl, rfl⟩ (H _ ht)
  · exact d_v (p := s = s ∧ (0 : Int) ≤ 0 ∧ (0 : Int) ≤ m ∧ (m : Int) ≤ (l.length : Int)) (v := .sl i 0 m s) rfl rfl hlt (by simp only [sv, hx, evI, hy]; simp) ⟨rfl, by omega, by omega, by omega⟩ (H _ ht)
end Go.Abs
end
section
open Go Go.Abs Go.Proofs.SlimCode Go.Img Go.Vm
namespace Go.Vm
theorem ac_pop {a : Ac} {az : List Ac} : ((a :: az).reverse.map Ac.i).take az.length = az.reverse.map Ac.i := by
  rw [List.reverse_cons, List.map_append, List.take_append, List.length_map, List.length_reverse, Nat.sub_self, List.take_zero, List.append_nil, List.take_of_length_le (by rw [List.length_map, List.length_reverse]; exact Nat.le_refl _)]
theorem VOk.pop {im : Image} {x : Vm} {f : Fm} {fs : List Fm} (V : VOk im { x with acts := f :: fs }) : VOk im { x with acts := fs } := ⟨V.hp, V.stat, V.sv, V.at', V.inp, by have h := V.n; have h : (f :: fs).length ≤ 64 := h; rw [List.length_cons] at h; show fs.length ≤ 64; omega, fun g hg => V.fr g (.tail _ hg), V.st⟩
end Go.Vm
set_option maxRecDepth 100000
end
section
open Go Go.Abs Go.Proofs.SlimCode Go.Img Go.Vm
set_option maxRecDepth 100000
namespace Go.Proofs
variable {g : Ya} {c : Mc} {a : Ac} {azs : List Ac} {im : Image} {x : Vm} {f : Fm} {fs : List Fm}
theorem v207 {v : AV} {l : List Val} (hI : ImOk im) (M : MV g c (a :: azs) im { x with acts := f :: fs }) (V : VOk im { x with acts := f :: fs }) (hv : TV v l) (hl : l.length ≤ 16) : HM Tryz.prog ann 207 [.ptr c.mi 0, .ptr a.i 0, v] g (MX c (a :: azs) im { x with acts := f :: fs }) fun _ ys _ => ∃ c' az', ys = MX c' az' im (({ x with acts := f :: fs } : Vm).back l) ∧ MV g c' az' im (({ x with acts := f :: fs } : Vm).back l) ∧ c'.mi = c.mi := by
  intro G hg hD
  have hac := M.ac
  have hm := Yk hD (Yi (k := 0) rfl (.head _))
  have hlz : ((a :: azs).reverse.map Ac.i).length = azs.length + 1 := by simp
  have hFs : Frs g azs fs := by
    have h2 := M.fr
    cases h2 with
    | cons _ H => exact H
  have hazs := hFs.len
  have hn64 : fs.length + 1 ≤ 64 := V.n
  refine Yt rfl rfl Tryz.func207 (frc (by with_unfolding_all rfl)) rfl ?_
  refine tM ?_
  refine Ke [(c.mi, 13, 1, [c.vac])] [.C, .C, .C, .C, .L, .C, .C, .C, .L, .C, .C, .C, .C, .C, .W] (Ybs hm rfl .nil) ?_
  refine tD ?_
  rw [hlz]
  apply Yia (w := I ((azs.length : Nat) : Int)) rfl trivial (by rw [w64 (by omega) (by omega)]; congr 1; omega)
  refine d_sltE encP hac (m := azs.length) (by omega) rfl rfl rfl fun w hw => ?_
  rw [ac_pop] at hw
  refine tD ?_
  refine Yjm 0 hD rfl rfl rfl rfl hw.one (show 13 < 20 by decide) fun hD => ?_
  refine ⟨fun h => absurd h (by decide), Yd2 (Yk hD (Yi (k := 0) rfl (.head _))) Ynm, ?_⟩
  obtain ⟨G2, e5, hD2, hx2, hH2⟩ : ∃ G', hset G _ = hset G' (MX { c with vac := w } azs im { x with acts := fs }).flatten ∧ Dis G' (MX { c with vac := w } azs im { x with acts := fs }).flatten ∧ Ext G G' ∧ Has G' (([(a.i, AObj.cells (a.A f))] :: [(a.fi, .cells (a.F f))] :: a.Ll :: a.Lk :: AX azs fs : CL).take 4).flatten := Yim [false, false, false, false, false, false, false, false, true, true, true, true] hD
  rw [e5]
  have hA0 : hset G2 (MX { c with vac := w } azs im { x with acts := fs }).flatten a.i = some (.cells (a.A f)) := Yr hD2 _ _ (hH2 _ (.head _))
  clear hD e5 hm
  have M2 : MV g { c with vac := w } azs im { x with acts := fs } := ⟨M.img, M.inp, M.hw, M.hs, M.st, M.at', M.out, hw, hFs⟩
  have V2 : VOk im { x with acts := fs } := V.pop
  have hac2 : SlE eP 1 w (azs.reverse.map Ac.i) c.Lac := hw
  have hl2 : (azs.reverse.map Ac.i).length = fs.length := by rw [List.length_map, List.length_reverse, hazs]
  refine tD ?_
  refine tM ?_
  rw [hl2]
  cases fs with
  | nil =>
    have eb : ({ x with acts := [f] } : Vm).back l = ({ x with acts := [] } : Vm).ends 1 := rfl
    rw [eb]
    refine oI ((([] : List Fm).length : Int) = 0) (fun _ => ?_) (fun h => absurd rfl h)
    refine tM ?_
    refine Xf (g := g) (xs := MX { c with vac := w } azs im { x with acts := [] }) 0 hD2 (hg.trans hx2) rfl rfl rfl rfl (v81 (c := { c with vac := w }) (x := { x with acts := [] })) ?_
    rintro _ _ G3 rfl hx3 hD
    refine tM ?_
    exact hSn (ys := MX { c with vac := w } azs im (({ x with acts := [] } : Vm).ends 1)) rfl hD (hx2.trans hx3) ⟨_, _, rfl, M2.ends, rfl⟩
  | cons f2 fs =>
    have eb : ({ x with acts := f :: f2 :: fs } : Vm).back l = if f.init < 0 then ({ x with acts := f2 :: fs } : Vm).swap 0 l else { x with acts := f2 :: fs } := rfl
    rw [eb]
    refine oI (((f2 :: fs).length : Int) = 0) (fun h => by rw [List.length_cons] at h; omega) (fun _ => ?_)
    refine tM ?_
    refine oI (f.init < 0) (fun H1 => ?_) (fun H1 => ?_)
    · rw [if_pos H1]
      cases azs with
      | nil => cases hazs
      | cons a2 azs =>
      refine tM ?_
      apply Xh (v38 (c := { c with vac := w }) (a := a2) M2 (by simp only [List.length_cons] at hazs hn64; omega) hD2)
      refine tM ?_
      refine Xf (g := g) (xs := MX { c with vac := w } (a2 :: azs) im { x with acts := f2 :: fs }) 0 hD2 (hg.trans hx2) rfl rfl rfl rfl (v197 (c := { c with vac := w }) (n := 0) hI M2 V2 (Nat.zero_le _) hv hl) ?_
      rintro _ _ G3 ⟨a3, rfl, M3, _⟩ hx3 hD
      refine tM ?_
      exact hSn (ys := MX { c with vac := w } (a3 :: azs) im (({ x with acts := f2 :: fs } : Vm).swap 0 l)) rfl hD (hx2.trans hx3) ⟨_, _, rfl, M3, rfl⟩
    · rw [if_neg H1]
      refine tM ?_
      exact hSn (ys := MX { c with vac := w } azs im { x with acts := f2 :: fs }) rfl hD2 hx2 ⟨_, _, rfl, M2, rfl⟩
end Go.Proofs
end
section
open Go Go.Abs Go.Proofs.SlimCode Go.Img Go.Vm
set_option maxRecDepth 100000
namespace Go.Proofs
variable {g : Ya} {c : Mc} {a : Ac} {azs : List Ac} {im : Image} {x : Vm} {f : Fm} {fs : List Fm} {i : Kr}
theorem v137 (hI : ImOk im) (M : MV g c (a :: azs) im { x with acts := f :: fs }) (V : VOk im { x with acts := f :: fs }) : HM Tryz.prog ann 137 [.ptr c.mi 0, .ptr a.i 0, .agg (eF i)] g (MX c (a :: azs) im { x with acts := f :: fs }) (IR g c im (({ x with acts := f :: fs } : Vm).ret i)) := by
  intro G hg hD
  have ec : ({ x with acts := f :: fs } : Vm).ret i = if f.m.gives ≠ decide (i.1 ≠ 46) then ({ x with acts := f :: fs } : Vm).ends 6 else
    if i.1 = 46 then ({ x with acts := f :: fs } : Vm).back [] else match ({ x with acts := f :: fs } : Vm).peek [decide (i.1 = 48)] with
    | (y, none) => y
    | (y, some l) => y.back l := rfl
  have hA := Yk hD (Yi (k := 8) rfl (.head _))
  refine Yt rfl rfl Tryz.func137 (frc (by with_unfolding_all rfl)) rfl ?_
  refine tM ?_
  unfold eF
  refine Ke [(a.i, 4, 1, [.bool f.m.gives])] [.C, .C, .C, .C, .L, .C, .L, .C, .C] (Ybs hA rfl .nil) ?_
  refine tD ?_
  apply Yia (w := .bool (decide (i.1 ≠ 46))) rfl trivial (by simp)
  by_cases H1 : f.m.gives ≠ decide (i.1 ≠ 46)
  · have hq : (f.m.gives == decide (i.1 ≠ 46)) = false := beq_eq_false_iff_ne.2 H1
    apply Yia (w := .bool true) rfl trivial (by show AV.bool (!(f.m.gives == decide (i.1 ≠ 46))) = _; rw [hq]; rfl)
    rw [if_pos H1] at ec
    rw [ec]
    refine tD ?_
    refine tM ?_
    refine Xf (g := g) (xs := MX c (a :: azs) im { x with acts := f :: fs }) 0 hD hg rfl rfl rfl rfl (v41 (x := { x with acts := f :: fs })) ?_
    rintro _ _ G2 rfl hx2 hD
    refine tM ?_
    exact hS0 (ys := MX c (a :: azs) im (({ x with acts := f :: fs } : Vm).ends 6)) .nil rfl hD hx2 ⟨c, _, rfl, M.ends, rfl⟩
  have hq : (f.m.gives == decide (i.1 ≠ 46)) = true := beq_iff_eq.2 (Decidable.not_not.1 H1)
  apply Yia (w := .bool false) rfl trivial (by show AV.bool (!(f.m.gives == decide (i.1 ≠ 46))) = _; rw [hq]; rfl)
  rw [if_neg H1] at ec
  refine tD ?_
  refine tM ?_
  refine oI (i.1 = 46) (fun H2 => ?_) (fun H2 => ?_)
  · rw [if_pos H2] at ec
    rw [ec]
    refine tM ?_
    refine Xf (g := g) (xs := MX c (a :: azs) im { x with acts := f :: fs }) 0 hD hg rfl rfl rfl rfl (v207 (l := []) hI M V .nil (Nat.zero_le _)) ?_
    rintro _ _ G2 ⟨c2, az2, rfl, M2, S2⟩ hx2 hD
    refine tM ?_
    exact hS0 (ys := MX c2 az2 im (({ x with acts := f :: fs } : Vm).back [])) .nil rfl hD hx2 ⟨c2, _, rfl, M2, S2⟩
  rw [if_neg H2] at ec
  refine tM ?_
  apply Y1 (w := .bool (decide (i.1 = 48))) rfl rfl trivial rfl
  refine tM ?_
  refine Xf (g := g) (xs := MX c (a :: azs) im { x with acts := f :: fs }) 0 hD hg rfl rfl rfl rfl (v196 M V (sl_tb [decide (i.1 = 48)]) (show 1 ≤ 16 by decide)) ?_
  rintro w _ G1 ⟨hw, a1, rfl, M1, ha1⟩ hx1 hD
  rcases Yhc (_im := im) (x := x) (f := f) (fs := fs) [decide (i.1 = 48)] with e1 | ⟨h1, h2, e1⟩
  · rw [e1] at hw hD M1 ec ⊢
    simp only at ec
    rw [ec]
    obtain ⟨w0, rfl⟩ := hw
    have hD : Dis G1 (MX c (a1 :: azs) im (({ x with acts := f :: fs } : Vm).ends 6)).flatten := hD
    refine tM ?_
    exact hSn (ys := MX c (a1 :: azs) im (({ x with acts := f :: fs } : Vm).ends 6)) rfl hD hx1 ⟨c, _, rfl, M1, rfl⟩
  · rw [e1] at hw hD M1 ec ⊢
    simp only at ec
    rw [ec]
    obtain ⟨w0, rfl, htv⟩ := hw
    have hD : Dis G1 (MX c (a1 :: azs) im { x with acts := f :: fs }).flatten := hD
    have M1 : MV g c (a1 :: azs) im { x with acts := f :: fs } := M1
    have htl := Yoe h1
    refine tM ?_
    rw [← ha1]
    refine Xf (g := g) (xs := MX c (a1 :: azs) im { x with acts := f :: fs }) 0 hD (hg.trans hx1) rfl rfl rfl rfl (v207 hI M1 V htv (by rw [htl]; show 1 ≤ 16; decide)) ?_
    rintro _ _ G2 ⟨c2, az2, rfl, M2, S2⟩ hx2 hD
    refine tM ?_
    exact hSn (ys := MX c2 az2 im _) rfl hD (hx1.trans hx2) ⟨c2, _, rfl, M2, S2⟩
end Go.Proofs
end
section
open Go Go.Abs Go.Proofs.SlimCode Go.Img Go.Vm
namespace Go.Vm
open Go.Proofs
def hM : Mth := ⟨0, 4, 4, false, [(46, 0, 0, 0)], []⟩
def hW (k : Nat) : List Int := List.replicate (2 * k) 0
def hIm (k : Nat) : Image := smv hM (hW k) [] 0
def hL (k : Nat) : List Nat := (List.range' 0 k).map (2 * ·)
theorem hW_get {k i : Nat} : (hW k).getD i 0 = 0 := Yqg
theorem hW_len {k : Nat} : (hW k).length = 2 * k := List.length_replicate
theorem hW_scan {k : Nat} : ∀ (d j : Nat), j + d = k → Yfk (hW k) (2 * j) = some ((List.range' j d).map (2 * ·))
  | 0, j, h => Ku (by rw [hW_len]; omega)
  | d + 1, j, h => by
    have ho : Ob (hW k) (2 * j) := ⟨by rw [hW_len]; omega, by rw [hW_get, hW_get]; unfold Yme; omega, by rw [hW_get, hW_len]; omega⟩
    rw [Yg8 (by rw [hW_len]; omega) ho, hW_get, show 2 * j + 2 + (0 : Int).toNat = 2 * (j + 1) by omega, hW_scan d (j + 1) (by omega)]
    rfl
theorem hW_parse {k : Nat} (hk : k ≤ 30) : K6 (hW k) = some (hL k) := by
  unfold K6
  rw [if_pos (by rw [hW_len]; omega)]
  exact hW_scan k 0 (by omega)
theorem hM_WF : hM.WF := by
  refine ⟨Yrq, Yrq, Yrq, ⟨(by decide : 1 ≤ 9223372036854775807), fun p hp => ?_⟩, ⟨Nat.zero_le _, fun _ h => nomatch h⟩⟩
  obtain rfl := List.mem_singleton.1 hp
  exact ⟨Yrq, Yrq, Yrq, Yrq⟩
theorem hIm_ok {k : Nat} (hk : k ≤ 30) : ImOk (hIm k) := by
  have w0 : ∀ a, wAt (hIm k) a = 0 := fun a => hW_get
  have c0 : ∀ a, obC (hIm k) a = X4 0 := fun a => by
    show cAt (hIm k) (wAt (hIm k) a) = _
    rw [w0]
    exact smv_c (n := 0) (by omega) (by omega)
  have hrel : Ybi (hIm k) (hL k) = [] := List.flatMap_eq_nil_iff.2 fun a _ => by
    show Ycj (hIm k) a (wAt (hIm k) (a + 1)).toNat = []
    rw [w0]; rfl
  refine ⟨Ymq ?_ (by decide) rfl rfl ⟨hL k, hW_parse hk, fun a ha => ⟨?_, fun _ => ?_⟩, fun i hi hr => ?_, hrel, fun r hr => ?_⟩, smv_WF hM_WF ⟨?_, fun n hn => ?_⟩ ⟨Nat.zero_le _, fun _ h => nomatch h⟩ ⟨by decide, by decide⟩⟩
  · refine ⟨by decide, by decide, by decide, fun _ => ⟨by decide, by decide, ?_⟩, fun t ht => (by cases ht), fun i hi => ?_⟩
    · show Yg0 46
      unfold Yg0; omega
    · obtain rfl := List.mem_singleton.1 hi
      refine ⟨by decide, ?_, ?_, ?_, ?_, ?_, ?_, ?_, ?_, ?_, ?_, ?_, ?_⟩ <;> intro h <;> simp only at h <;> omega
  · show IsT (hIm k) (wAt (hIm k) a)
    rw [w0]
    exact Yq6 (n := 0) (by omega) (by omega)
  · show wAt (hIm k) (a + 1) = ((obC (hIm k) a).refs.length : Int)
    rw [w0, c0]; rfl
  · have hi2 : i < 2 := hi
    have : i = 0 ∨ i = 1 := by omega
    rcases this with rfl | rfl
    · cases hr
    · exact .inl rfl
  · have hr : r ∈ Ybi (hIm k) (hL k) := hr
    rw [hrel] at hr; cases hr
  · show (hW k).length ≤ 9223372036854775807
    rw [hW_len]; omega
  · rw [List.eq_of_mem_replicate hn]; exact ⟨by decide, by decide⟩
def hX (k : Nat) (n : Int) : Vm := Vm.new (hIm k) [] (Hp.of n (hW k) (hL k))
def hS (k : Nat) (n : Int) : Nat → Vm
  | 0 => { hX k n with acts := [frS hM 0 []], steps := 0, inp := [], out := [], fin := 0, code := 0 }
  | _ => { hX k n with acts := [], steps := 1, inp := [], out := [], fin := 1, code := 0 }
theorem hS_step {k : Nat} {n : Int} : ∀ j, j < 1 → (hS k n j).step (hIm k) = hS k n (j + 1)
  | 0, _ => rfl
theorem hX_ok {k : Nat} {_n : Int} (hk : k ≤ 30) (hn : ¬ (Hp.new _n).n < (hIm k).words.length) : VOk (hIm k) (hX k _n) := new_ok (hIm_ok hk) (hW_parse hk) hn (fun _n hn => nomatch hn)
end Go.Vm
namespace Go.Proofs
variable {g : Ya} {k : Nat} {n : Int}
theorem hRun8 : (hX k n).run (hIm k) 10 = (hS k n 1, ⟨[], 1, 0, []⟩) := Ymw (S := hS k n) (N := 1) (by decide) (by decide) hS_step (fun j h0 h1 => absurd h1 (by omega)) (show (1 : Int) ≠ 0 by decide)
theorem hR8 {c : Mc} {az : List Ac} (hk : k ≤ 30) (hn : ¬ (Hp.new n).n < (hIm k).words.length) (M : MV g c az (hIm k) (hX k n)) : HM Tryz.prog ann 19 [.ptr c.mi 0, I (10 : Nat)] g (MX c az (hIm k) (hX k n)) fun w ys _ => Ygx w ((hX k n).run (hIm k) 10).2 ∧ ∃ c' az', ys = MX c' az' (hIm k) ((hX k n).run (hIm k) 10).1 ∧ MV g c' az' (hIm k) ((hX k n).run (hIm k) 10).1 ∧ c'.mi = c.mi := by
  refine v19C (S := hS k n) (N := 1) (n := 10) (by decide) (by decide) (by decide) hS_step (fun j h0 h1 => absurd h1 (by omega)) (show (1 : Int) ≠ 0 by decide) ?_ ?_ M
  · intro j
    match j with
    | 0 => exact Nat.zero_le _
    | _ + 1 => exact Nat.zero_le _
  · intro j h1
    match j, h1 with
    | 0, _ => exact Ymn (x := { hX k n with steps := 0, inp := [], out := [], fin := 0, code := 0 }) (f := frS hM 0 []) (i := (46, 0, 0, 0)) (hIm_ok hk) (hX_ok hk hn) rfl (show (0 : Int) < 2 ^ 40 by decide) rfl rfl fun c z M V => v137 (x := { hX k n with steps := 1, inp := [], out := [], fin := 0, code := 0 }) (hIm_ok hk) M V
end Go.Proofs
end
section
open Go Go.Abs Go.Proofs.SlimCode Go.Img Go.Vm
namespace Go.Proofs
set_option maxRecDepth 100000
variable {g : Ya} {k : Nat} {n : Int}
theorem p8v {kk n : Int} (hk0 : I64 kk) (_hn0 : I64 n) : HCallC Tryz.prog ann 8 [I kk, I n] hp0 fun v _ => v = .bool true ∧ True := by
  refine Yt rfl rfl Tryz.func8 (frc (by with_unfolding_all rfl)) rfl ?_
  apply K5
  refine tR ?_
  apply K5
  refine tR ?_
  apply Xh (first := []) (cap := []) (vs := []) b9.call
  refine tR ?_
  apply K5
  apply K5
  refine tR ?_
  refine Jc (σ := Unit) (fun _ => [(0, I kk), (1, I n)]) (fun _ h' => h' = hp0 ∧ 0 ≤ kk ∧ kk ≤ 30 ∧ 0 ≤ n ∧ n ≤ 300) ?_ ?_
  · refine tM ?_
    refine oI (kk < 0) (fun h1 => ?_) (fun h1 => ?_)
    · refine tM ?_
      exact Xd (.tmp rfl .nil) rfl ⟨rfl, trivial⟩
    refine tM ?_
    refine oI (30 < kk) (fun h2 => ?_) (fun h2 => ?_)
    · refine tM ?_
      exact Xd (.tmp rfl .nil) rfl ⟨rfl, trivial⟩
    refine tM ?_
    refine oI (n < 0) (fun h3 => ?_) (fun h3 => ?_)
    · refine tM ?_
      exact Xd (.tmp rfl .nil) rfl ⟨rfl, trivial⟩
    refine tM ?_
    refine oI (300 < n) (fun h4 => ?_) (fun h4 => ?_)
    · refine tM ?_
      exact Xd (.tmp rfl .nil) rfl ⟨rfl, trivial⟩
    refine tM ?_
    exact ⟨(), tU, rfl, rfl, by omega, by omega, by omega, by omega⟩
  rintro _ _ ⟨rfl, k1, k2, n1, n2⟩
  obtain ⟨k, rfl⟩ := Int.eq_ofNat_of_zero_le k1
  have hk : k ≤ 30 := by omega
  have hI := hIm_ok hk
  obtain ⟨hbd, hdec⟩ := Ypo (x := hM) (w := hW k) (r := []) (s := 0) hI ⟨by decide, by decide⟩ (by rw [hW_len]; omega) (by decide)
  refine tM ?_
  show Yu _ _ _ _ _ _ _ _ _ (hset hp0 ([] : CL).flatten) _
  refine Xf (G := hp0) (g := hp0) (xs := []) 0 trivial .refl rfl rfl rfl rfl (v17 (vl := .tsl [I 46, I 0, I 0, I 0] 1) rfl) ?_
  rintro _ _ G1 ⟨o7, o8, o10, vc, vg, vr, vf, rfl, rfl, hR⟩ hx1 hD
  have hone := hR.one
  have hD : Dis G1 (CdY o7 o8 o10 (.tsl [I 46, I 0, I 0, I 0] 1)).flatten := hD
  show Yu _ _ _ _ _ _ _ _ _ (hset G1 (CdY o7 o8 o10 (.tsl [I 46, I 0, I 0, I 0] 1)).flatten) _
  refine tM ?_
  refine Jd hD rfl fun b6 hD => ?_
  refine Kb (c := [vc, .sl o7 0 1 6, I 0, I (-1), vg, .sl o8 0 5 1, vr, .sl o10 0 2 1, vf]) 0 hD rfl rfl rfl rfl rfl rfl rfl hone fun hD => ?_
  have hD : Dis G1 ([(b6, AObj.cells [vc, .sl o7 0 1 6, I 0, I (-1), vg, .sl o8 0 5 1, vr, .sl o10 0 2 1, vf])] :: CdY o7 o8 o10 (.tsl [I 46, I 0, I 0, I 0] 1)).flatten := hD
  refine tM ?_
  refine Qs 0 hD rfl rfl rfl rfl rfl rfl (show 6 < 9 by decide) fun hD => ?_
  refine Y1 (w := .ptr o10 1) rfl rfl ⟨rfl, by decide, by decide⟩ rfl ?_
  refine Qs 2 hD rfl rfl rfl rfl rfl rfl (show 1 < 2 by decide) fun hD => ?_
  refine tM ?_
  refine Qs 0 hD rfl rfl rfl rfl rfl rfl (show 5 < 9 by decide) fun hD => ?_
  have hD : Dis G1 ([(b6, AObj.cells [vc, .sl o7 0 1 6, I 0, I (-1), vg, .nil .sl, .nil .sl, .sl o10 0 2 1, vf])] :: [] :: [[(o8, AObj.cells W5c)], [(o10, AObj.cells [.int .i32 5, .int .i32 0])], [(o7, AObj.cells [I 0, I 4, I 4, .bool false, .tsl [I 46, I 0, I 0, I 0] 1, .nil .sl])]]).flatten := hD
  refine tM ?_
  refine Xv (σ := Nat × AV × OL) (fun s => [(0, I k), (1, I n), (6, .ptr b6 0), (7, I s.1)]) (fun s h' => s.1 ≤ k ∧ SlE eW 1 s.2.1 (hW s.1) s.2.2 ∧ h' = hset G1 ([(b6, AObj.cells [vc, .sl o7 0 1 6, I 0, I (-1), vg, s.2.1, .nil .sl, .sl o10 0 2 1, vf])] :: s.2.2 :: [[(o8, AObj.cells W5c)], [(o10, AObj.cells [.int .i32 5, .int .i32 0])], [(o7, AObj.cells [I 0, I 4, I 4, .bool false, .tsl [I 46, I 0, I 0, I 0] 1, .nil .sl])]]).flatten ∧ Dis G1 ([(b6, AObj.cells [vc, .sl o7 0 1 6, I 0, I (-1), vg, s.2.1, .nil .sl, .sl o10 0 2 1, vf])] :: s.2.2 :: [[(o8, AObj.cells W5c)], [(o10, AObj.cells [.int .i32 5, .int .i32 0])], [(o7, AObj.cells [I 0, I 4, I 4, .bool false, .tsl [I 46, I 0, I 0, I 0] 1, .nil .sl])]]).flatten) (fun s => k - s.1) (0, .nil .sl, []) tU ⟨Nat.zero_le _, .inl ⟨rfl, rfl, rfl⟩, rfl, hD⟩ ?_
  clear hD
  rintro ⟨j, vw, Lw⟩ _ ⟨hj, hL, rfl, hD⟩
  simp only at hj hL hD ⊢
  refine tM ?_
  refine oI ((j : Int) < k) (fun H1 => ?_) (fun H1 => ?_)
  · refine tM ?_
    refine Ydx (m := [0, 0]) 1 encW hL hD rfl rfl rfl rfl rfl rfl (by rw [hW_len]; show (2 * j + 2) * (4 + 1) ≤ 2 ^ 44; omega) fun vw2 Lw2 hL2 hD => ?_
    have hL2 : SlE eW 1 vw2 (hW (j + 1)) Lw2 := by
      have e : hW (j + 1) = hW j ++ [0, 0] := by
        unfold hW
        rw [show 2 * (j + 1) = 2 * j + 1 + 1 by omega, List.replicate_succ', List.replicate_succ', List.append_assoc]; rfl
      rw [e]; exact hL2
    refine tM ?_
    refine Qs 0 hD rfl rfl rfl rfl rfl hL2.one (show 5 < 9 by decide) fun hD => ?_
    refine tM ?_
    apply Y1 (w := I ((j + 1 : Nat) : Int)) rfl rfl trivial (by rw [w64 (by omega) (by omega)]; rfl)
    refine tM ?_
    exact ⟨(j + 1, vw2, Lw2), by show k - (j + 1) < k - j; omega, tU, rfl, by show j + 1 ≤ k; omega, hL2, rfl, hD⟩
  obtain rfl : j = k := by omega
  obtain ⟨G2, e2, hD2, hx2, hH⟩ := Yim [false, true, true, true, true] hD
  refine o_heap e2 ?_
  have hD : Dis G2 ([[(b6, AObj.cells [vc, .sl o7 0 1 6, I 0, I (-1), vg, vw, .nil .sl, .sl o10 0 2 1, vf])]] : CL).flatten := hD2
  have hHL : Has G2 Lw := fun p hp => hH p (List.mem_append.2 (.inl hp))
  have h10 : G2 o10 = some (.cells [.int .i32 5, .int .i32 0]) := hH _ (List.mem_append.2 (.inr (.tail _ (.head _))))
  have h7 : G2 o7 = some (.cells [I 0, I 4, I 4, .bool false, .tsl [I 46, I 0, I 0, I 0] 1, .nil .sl]) := hH _ (List.mem_append.2 (.inr (.tail _ (.tail _ (.head _)))))
  have hRI : RImg G2 [vc, .sl o7 0 1 6, I 0, I (-1), vg, vw, .nil .sl, .sl o10 0 2 1, vf] (hIm j) := img_of hR hx2 ⟨_, .sl o7 0 1 _ _ h7 rfl, .one rfl ⟨_, _, rfl, ⟨_, .tsl _ 1 rfl, .one rfl rfl⟩, .nil⟩⟩ (SlE.rn hL hHL) ⟨_, .sl o10 0 2 _ _ h10 rfl, Chunks.of_map (g := AV.int .i32) (l := [5, 0])⟩ .nil
  refine tM ?_
  refine Yfl (l := [vc, .sl o7 0 1 6, I 0, I (-1), vg, vw, .nil .sl, .sl o10 0 2 1, vf]) hD rfl rfl rfl (.head _) rfl ?_
  refine tM ?_
  refine Yi6 (g := G2) (pre := [[(b6, AObj.cells [vc, .sl o7 0 1 6, I 0, I (-1), vg, vw, .nil .sl, .sl o10 0 2 1, vf])]]) (xs := []) hD .refl rfl rfl rfl rfl (v11 (inp := []) (n := n) (b := 0) (f := 10) (l := Go.Vm.hL j) (vi := .nil .sl) hI hRI hbd hdec ⟨by decide, by decide⟩ (hW_parse hk) .nil (by decide) (fun n hn => nomatch hn) fun hn _ c az M => hR8 hk hn M) ?_
  rintro w ys G3 hRun hx3 hD
  have eR : (Vm.new (hIm j) [] (Hp.of n (hIm j).words (Go.Vm.hL j))).run (hIm j) 10 = (hS j n 1, ⟨[], 1, 0, []⟩) := hRun8
  have hwl : ((hIm j).words.length : Int) = 2 * j := by show ((hW j).length : Int) = 2 * j; rw [hW_len]; omega
  have hnn : (Hp.new n).n = n := by show min (max n 0) 1048576 = n; omega
  unfold RunR at hRun
  rw [hnn, hwl, eR] at hRun
  by_cases hc : n < 2 * (j : Int)
  · rw [if_pos hc] at hRun
    obtain ⟨t, mi, cs, vst, vat, vin, Lst, Lat, h9, rfl, ⟨vo, rfl, ht⟩, rfl, _⟩ := hRun
    have hov := (VSl.of_T (h := G3) ht).one
    refine tM ?_
    refine Jd hD rfl fun b8 hD => ?_
    refine Kb (c := [vo, I 4, .int .i32 0, .str []]) 0 hD rfl rfl rfl rfl rfl rfl rfl (by show (vo.one && _) = true; rw [hov]; rfl) fun hD => ?_
    refine tM ?_
    apply Y1 (w := I (2 * (j : Int))) rfl rfl trivial (by rw [w64 (by omega) (by omega)])
    refine tM ?_
    apply Y1 (w := .bool false) rfl rfl trivial (congrArg AV.bool (decide_eq_false  (by omega)))
    refine tM ?_
    apply Y1 (w := I (2 * (j : Int))) rfl rfl trivial (by rw [w64 (by omega) (by omega)])
    refine tM ?_
    apply Y1 (w := .bool true) rfl rfl trivial (congrArg AV.bool (decide_eq_true (by omega)))
    refine tM ?_
    exact Xd (.tmp rfl .nil) rfl ⟨rfl, trivial⟩
  · rw [if_neg hc] at hRun
    obtain ⟨t, c, az, rfl, ⟨vo, rfl, ht⟩, rfl, M⟩ := hRun
    have hov := (VSl.of_T (h := G3) ht).one
    refine tM ?_
    refine Jd hD rfl fun b8 hD => ?_
    refine Kb (c := [vo, I 1, .int .i32 0, .str []]) 0 hD rfl rfl rfl rfl rfl rfl rfl (by show (vo.one && _) = true; rw [hov]; rfl) fun hD => ?_
    refine tM ?_
    apply Y1 (w := I (2 * (j : Int))) rfl rfl trivial (by rw [w64 (by omega) (by omega)])
    refine tM ?_
    apply Y1 (w := .bool true) rfl rfl trivial (congrArg AV.bool (decide_eq_true  (by omega)))
    refine tM ?_
    apply Y1 (w := I (2 * (j : Int))) rfl rfl trivial (by rw [w64 (by omega) (by omega)])
    refine tM ?_
    apply Y1 (w := .bool false) rfl rfl trivial (congrArg AV.bool (decide_eq_false (by omega)))
    refine tM ?_
    exact Xd (.tmp rfl .nil) rfl ⟨rfl, trivial⟩
theorem run_of_h {A : Abs.Ann} {P : Program} {f : Nat} {vs : List AV} {Q : Ya → Prop} (h : HCallC P A f vs (fun _ => none) fun v h' => v = .bool true ∧ Q h') : ∃ n h' n' lg, Xg P A n f vs (fun _ => none) 0 = some (.bool true, h', n', lg) := by
  obtain ⟨k, v, h', n', lg, e, rfl, _⟩ := h 0 (fun _ _ => rfl)
  exact ⟨k, h', n', lg, e⟩
theorem lw_i64 {n : Int} (h : (Lit.int .i64 n).wf = true) : I64 n := by
  simp [Lit.wf, IntKind.min, IntKind.max, IntKind.bits, IntKind.signed] at h
  unfold I64
  omega
theorem law_run (ps : List AV) (h : TyVs Tryz.prog 4 Tryz.f8.params.toList ps) : ∃ n h' n' lg, Xg Tryz.prog ann n 8 ps (fun _ => none) 0 = some (.bool true, h', n', lg) := by
  obtain ⟨v1, _, rfl, h1, v2, _, rfl, h2, rfl⟩ := h
  obtain ⟨n1, rfl, w1⟩ := ty_int (i := .i64) (by kernel_rfl) h1
  obtain ⟨n2, rfl, w2⟩ := ty_int (i := .i64) (by kernel_rfl) h2
  exact run_of_h (p8v (lw_i64 w1) (lw_i64 w2))
theorem extok : ExtOK Tryz.prog SlimCode.ann := by
  intro f e h
  cases h
end Go.Proofs
end
