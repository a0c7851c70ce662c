/- TraceFront's walk. -/
import Derived.Test.YtikddbjfljcbkaaDoorTrWalk
import Derived.Test.YtikddbjfljcbkaaDoorAbsTy
open Go Go.Abs Go.Proofs.SlimCode
namespace Go.Proofs

theorem ty_tr {v : AV} (h : TyV Tryd.prog 4 24 v) : ∃ o t, v = trA o t ∧ NSl .i32 o t.out ∧ t.out.length ≤ maxLen ∧ (∀ n ∈ t.out, (Lit.int .i32 n).wf = true) ∧ (Lit.int .i64 t.e).wf = true ∧ (Lit.int .i32 t.c).wf = true ∧ t.s.length ≤ maxLen := by
  obtain ⟨cs, rfl, hc⟩ := ty_struct Tryd.underlying24 h
  obtain ⟨hl, hf⟩ := tyc_struct (k := 3) Tryd.underlying24 hc
  have h4 : Tryd.prog.cellsOf 24 = 4 := by kernel_rfl
  have e22 : Tryd.prog.cellsOf 22 = 1 := by kernel_rfl
  have e3 : Tryd.prog.cellsOf 3 = 1 := by kernel_rfl
  have e21 : Tryd.prog.cellsOf 21 = 1 := by kernel_rfl
  have e9 : Tryd.prog.cellsOf 9 = 1 := by kernel_rfl
  rw [h4] at hl
  match cs, hl with
  | [a, b, c, d], _ =>
    have f0 := hf _ (.head _)
    have f1 := hf _ (.tail _ (.head _))
    have f2 := hf _ (.tail _ (.tail _ (.head _)))
    have f3 := hf _ (.tail _ (.tail _ (.tail _ (.head _))))
    simp only [e22, e3, e21, e9] at f0 f1 f2 f3
    obtain ⟨o, ns, q0, hn, hm, hw⟩ := tyc_nums (k := 1) (i := .i32) Tryd.underlying22 Tryd.underlying21 e21 f0
    obtain ⟨e, q1, he⟩ := tyc_int (k := 2) (i := .i64) Tryd.underlying3 f1
    obtain ⟨c', q2, hc'⟩ := tyc_int (k := 2) (i := .i32) Tryd.underlying21 f2
    obtain ⟨s, q3, hs⟩ := tyc_str (k := 2) Tryd.underlying9 f3
    simp only [List.drop_zero, List.drop_succ_cons, List.take_succ_cons, List.take_zero, List.cons.injEq, and_true] at q0 q1 q2 q3
    subst q0 q1 q2 q3
    exact ⟨a, ⟨ns, e, c', s⟩, rfl, hn, hm, hw, he, hc', hs⟩

/- daguerrelaw29.cut -/
def cutO (l : List Int) : AV := tslOf (nums .i32 l) l.length
def cutT (t : Tr) : Tr := ⟨t.out.take 20, t.e, t.c, t.s.take 10⟩
theorem cutO_nsl (l : List Int) : NSl .i32 (cutO l) l := tslOf_T (by simp [nums])

theorem c7 {o : AV} {t : Tr} (ho : NSl .i32 o t.out) : PureC Tryd.prog ann 7 [trA o t] (trA (cutO (cutT t).out) (cutT t)) := by
  refine s_pure_of Tryd.func7 sl7 rfl rfl (by simp [trA, AV.tree, AV.trees, (cutO_nsl _).tree]) ?_
  unfold S7
  show SRun _ _ _ _ _ _ _ (hset hp0 []) _
  (repeat (first | ((with_reducible apply o_valW); exact rfl; exact rfl; exact rfl; exact trivial) | with_reducible apply s_seq | with_reducible apply s_reg | with_reducible apply s_skip | with_reducible apply s_block | with_reducible apply s_exit | with_reducible apply s_ret | with_reducible apply o_nil | with_reducible apply ssq_norm | with_reducible apply ssq_exit | with_reducible apply ssq_ret | with_reducible apply sbq_hit | with_reducible apply sbq_norm | with_reducible apply sbq_ret | with_reducible apply slq_exit | with_reducible apply slq_ret | with_reducible apply jq_exit | with_reducible apply jq_ret | ((with_reducible apply s_condT); exact rfl) | ((with_reducible apply s_condF); exact rfl) | ((with_reducible apply o_guardT); exact rfl; exact rfl) | ((with_reducible apply o_guardF); exact rfl; exact rfl) | ((with_reducible apply sbq_miss); exact rfl)))
  ((with_reducible apply o_hboxL dis_nil); exact rfl; exact rfl; (exact (by simp only [trA, AV.cells, List.all_cons, ho.one]; rfl)); intro i1 hD1)
  ((with_reducible apply o_alcL hD1); exact rfl; intro i2 hD2)
  (repeat (first | ((with_reducible apply o_valW); exact rfl; exact rfl; exact rfl; exact trivial) | with_reducible apply s_seq | with_reducible apply s_reg | with_reducible apply s_skip | with_reducible apply s_block | with_reducible apply s_exit | with_reducible apply s_ret | with_reducible apply o_nil | with_reducible apply ssq_norm | with_reducible apply ssq_exit | with_reducible apply ssq_ret | with_reducible apply sbq_hit | with_reducible apply sbq_norm | with_reducible apply sbq_ret | with_reducible apply slq_exit | with_reducible apply slq_ret | with_reducible apply jq_exit | with_reducible apply jq_ret | ((with_reducible apply s_condT); exact rfl) | ((with_reducible apply s_condF); exact rfl) | ((with_reducible apply o_guardT); exact rfl; exact rfl) | ((with_reducible apply o_guardF); exact rfl; exact rfl) | ((with_reducible apply sbq_miss); exact rfl)))
  ((try ((with_reducible apply o_guardT); exact rfl; exact rfl)); (with_reducible apply o_ldQ 1 hD2); exact rfl; exact rfl; exact rfl; exact rfl)
  (repeat (first | ((with_reducible apply o_valW); exact rfl; exact rfl; exact rfl; exact trivial) | with_reducible apply s_seq | with_reducible apply s_reg | with_reducible apply s_skip | with_reducible apply s_block | with_reducible apply s_exit | with_reducible apply s_ret | with_reducible apply o_nil | with_reducible apply ssq_norm | with_reducible apply ssq_exit | with_reducible apply ssq_ret | with_reducible apply sbq_hit | with_reducible apply sbq_norm | with_reducible apply sbq_ret | with_reducible apply slq_exit | with_reducible apply slq_ret | with_reducible apply jq_exit | with_reducible apply jq_ret | ((with_reducible apply s_condT); exact rfl) | ((with_reducible apply s_condF); exact rfl) | ((with_reducible apply o_guardT); exact rfl; exact rfl) | ((with_reducible apply o_guardF); exact rfl; exact rfl) | ((with_reducible apply sbq_miss); exact rfl)))
  ((try ((with_reducible apply o_guardT); exact rfl; exact rfl)); (with_reducible apply o_ldQ 1 hD2); exact rfl; exact rfl; exact rfl; exact rfl)
  apply o_lenT rfl rfl ho
  apply o_int (m := ((min t.out.length 20 : Nat) : Int)) rfl rfl trivial (by simp; omega)
  refine o_sltN (a := 0) (b := min t.out.length 20) rfl rfl ho rfl rfl (by omega) (by omega) fun w hw => ?_
  rw [List.drop_zero] at hw
  have hms : t.out.take (min t.out.length 20) = t.out.take 20 := by
    rcases Nat.le_total t.out.length 20 with h | h
    · rw [Nat.min_eq_left h, List.take_length, List.take_of_length_le h]
    · rw [Nat.min_eq_right h]
  rw [hms] at hw
  generalize hgs : t.out.take 20 = ms at hw
  have hml : ms.length ≤ 20 := by rw [← hgs, List.length_take]; omega
  have hcut : (cutT t).out = ms := hgs
  apply o_appTn rfl rfl rfl (srcOf_T hw) (by simp [nums]) nums_one (by omega) (fun _ _ _ _ _ e => absurd e (TSl.notSl hw))
  have hone : (cutO ms).one = true := (cutO_nsl ms).one
  rw [hcut]
  change SOps _ _ _ _ _ _ _ ((10, cutO ms) :: _) _ _ _
  generalize cutO ms = om at hone ⊢
  have hcl : om.cells = [om] := by cases om <;> first | rfl | cases hone
  (repeat (first | ((with_reducible apply o_valW); exact rfl; exact rfl; exact rfl; exact trivial) | with_reducible apply s_seq | with_reducible apply s_reg | with_reducible apply s_skip | with_reducible apply s_block | with_reducible apply s_exit | with_reducible apply s_ret | with_reducible apply o_nil | with_reducible apply ssq_norm | with_reducible apply ssq_exit | with_reducible apply ssq_ret | with_reducible apply sbq_hit | with_reducible apply sbq_norm | with_reducible apply sbq_ret | with_reducible apply slq_exit | with_reducible apply slq_ret | with_reducible apply jq_exit | with_reducible apply jq_ret | ((with_reducible apply s_condT); exact rfl) | ((with_reducible apply s_condF); exact rfl) | ((with_reducible apply o_guardT); exact rfl; exact rfl) | ((with_reducible apply o_guardF); exact rfl; exact rfl) | ((with_reducible apply sbq_miss); exact rfl)))
  ((try ((with_reducible apply o_guardT); exact rfl; exact rfl)); (with_reducible apply o_ldQ 1 hD2); exact rfl; exact rfl; exact rfl; exact rfl)
  ((try ((with_reducible apply o_guardT); exact rfl; exact rfl)); (with_reducible apply o_call); exact rfl; exact rfl; exact rfl; exact c15 (by omega))
  (repeat (first | ((with_reducible apply o_valW); exact rfl; exact rfl; exact rfl; exact trivial) | with_reducible apply s_seq | with_reducible apply s_reg | with_reducible apply s_skip | with_reducible apply s_block | with_reducible apply s_exit | with_reducible apply s_ret | with_reducible apply o_nil | with_reducible apply ssq_norm | with_reducible apply ssq_exit | with_reducible apply ssq_ret | with_reducible apply sbq_hit | with_reducible apply sbq_norm | with_reducible apply sbq_ret | with_reducible apply slq_exit | with_reducible apply slq_ret | with_reducible apply jq_exit | with_reducible apply jq_ret | ((with_reducible apply s_condT); exact rfl) | ((with_reducible apply s_condF); exact rfl) | ((with_reducible apply o_guardT); exact rfl; exact rfl) | ((with_reducible apply o_guardF); exact rfl; exact rfl) | ((with_reducible apply sbq_miss); exact rfl)))
  ((with_reducible apply o_stL 1 hD2); exact rfl; exact rfl; exact rfl; exact rfl; exact rfl; (exact by rw [hcl]; rfl); (exact by rw [hcl]; simp [hone]); (exact by rw [hcl]; exact rfl); clear hD2; intro hD2)
  (repeat (first | ((with_reducible apply o_valW); exact rfl; exact rfl; exact rfl; exact trivial) | with_reducible apply s_seq | with_reducible apply s_reg | with_reducible apply s_skip | with_reducible apply s_block | with_reducible apply s_exit | with_reducible apply s_ret | with_reducible apply o_nil | with_reducible apply ssq_norm | with_reducible apply ssq_exit | with_reducible apply ssq_ret | with_reducible apply sbq_hit | with_reducible apply sbq_norm | with_reducible apply sbq_ret | with_reducible apply slq_exit | with_reducible apply slq_ret | with_reducible apply jq_exit | with_reducible apply jq_ret | ((with_reducible apply s_condT); exact rfl) | ((with_reducible apply s_condF); exact rfl) | ((with_reducible apply o_guardT); exact rfl; exact rfl) | ((with_reducible apply o_guardF); exact rfl; exact rfl) | ((with_reducible apply sbq_miss); exact rfl)))
  ((try ((with_reducible apply o_guardT); exact rfl; exact rfl)); (with_reducible apply o_stL 1 hD2); exact rfl; exact rfl; exact rfl; exact rfl; exact rfl; exact rfl; (exact rfl); exact rfl; clear hD2; intro hD2)
  (repeat (first | ((with_reducible apply o_valW); exact rfl; exact rfl; exact rfl; exact trivial) | with_reducible apply s_seq | with_reducible apply s_reg | with_reducible apply s_skip | with_reducible apply s_block | with_reducible apply s_exit | with_reducible apply s_ret | with_reducible apply o_nil | with_reducible apply ssq_norm | with_reducible apply ssq_exit | with_reducible apply ssq_ret | with_reducible apply sbq_hit | with_reducible apply sbq_norm | with_reducible apply sbq_ret | with_reducible apply slq_exit | with_reducible apply slq_ret | with_reducible apply jq_exit | with_reducible apply jq_ret | ((with_reducible apply s_condT); exact rfl) | ((with_reducible apply s_condF); exact rfl) | ((with_reducible apply o_guardT); exact rfl; exact rfl) | ((with_reducible apply o_guardF); exact rfl; exact rfl) | ((with_reducible apply sbq_miss); exact rfl)))
  ((try ((with_reducible apply o_guardT); exact rfl; exact rfl)); (with_reducible apply o_ldnL 1 hD2); exact rfl; exact rfl; exact rfl; exact rfl; exact rfl)
  ((try ((with_reducible apply o_guardT); exact rfl; exact rfl)); (with_reducible apply o_stL 0 hD2); exact rfl; exact rfl; exact rfl; exact rfl; exact rfl; exact rfl; (exact (by change List.all [om, AV.int .i64 t.e, AV.int .i32 t.c, AV.str (t.s.take 10)] AV.one = true; simp only [List.all_cons, hone]; rfl)); exact rfl; clear hD2; intro hD2)
  (repeat (first | ((with_reducible apply o_valW); exact rfl; exact rfl; exact rfl; exact trivial) | with_reducible apply s_seq | with_reducible apply s_reg | with_reducible apply s_skip | with_reducible apply s_block | with_reducible apply s_exit | with_reducible apply s_ret | with_reducible apply o_nil | with_reducible apply ssq_norm | with_reducible apply ssq_exit | with_reducible apply ssq_ret | with_reducible apply sbq_hit | with_reducible apply sbq_norm | with_reducible apply sbq_ret | with_reducible apply slq_exit | with_reducible apply slq_ret | with_reducible apply jq_exit | with_reducible apply jq_ret | ((with_reducible apply s_condT); exact rfl) | ((with_reducible apply s_condF); exact rfl) | ((with_reducible apply o_guardT); exact rfl; exact rfl) | ((with_reducible apply o_guardF); exact rfl; exact rfl) | ((with_reducible apply sbq_miss); exact rfl)))
  apply sret_ret
  exact res_R (vs := [_]) (.cells (m := 4) rfl (by kernel_rfl) (hset_get (k := 0) hD2 rfl) rfl .nil) rfl

theorem and_le (a b : Int) (n : Nat) : (BitVec.ofInt n a &&& BitVec.ofInt n b).toNat ≤ (BitVec.ofInt n b).toNat := by
  rw [BitVec.toNat_and]
  exact Nat.and_le_right
def endF (e : Int) : Int := IntKind.i64.wrap (1 + IntKind.i64.wrap ((BitVec.ofInt IntKind.i64.bits e &&& BitVec.ofInt IntKind.i64.bits 1).toNat : Int))
theorem endF_or (e : Int) : endF e = 1 ∨ endF e = 2 := by
  have h := and_le e 1 64
  have h1 : (BitVec.ofInt 64 1).toNat = 1 := rfl
  rw [h1] at h
  unfold endF
  show IntKind.i64.wrap (1 + IntKind.i64.wrap ((BitVec.ofInt 64 e &&& BitVec.ofInt 64 1).toNat : Int)) = 1 ∨ IntKind.i64.wrap (1 + IntKind.i64.wrap ((BitVec.ofInt 64 e &&& BitVec.ofInt 64 1).toNat : Int)) = 2
  generalize (BitVec.ofInt 64 e &&& BitVec.ofInt 64 1).toNat = m at h
  rw [w64 (n := (m : Int)) (by omega) (by omega), w64 (by omega) (by omega)]
  omega
def endU (e : Int) : Int := IntKind.i64.wrap (3 + (IntKind.i64.wrap ((BitVec.ofInt IntKind.i64.bits e &&& BitVec.ofInt IntKind.i64.bits 3).toNat : Int)).tmod 3)
theorem endU_in (e : Int) : 3 ≤ endU e ∧ endU e ≤ 5 := by
  have h := and_le e 3 64
  have h1 : (BitVec.ofInt 64 3).toNat = 3 := rfl
  rw [h1] at h
  unfold endU
  show 3 ≤ IntKind.i64.wrap (3 + (IntKind.i64.wrap ((BitVec.ofInt 64 e &&& BitVec.ofInt 64 3).toNat : Int)).tmod 3) ∧ IntKind.i64.wrap (3 + (IntKind.i64.wrap ((BitVec.ofInt 64 e &&& BitVec.ofInt 64 3).toNat : Int)).tmod 3) ≤ 5
  generalize (BitVec.ofInt 64 e &&& BitVec.ofInt 64 3).toNat = m at h
  rw [w64 (n := (m : Int)) (by omega) (by omega)]
  have : ((m : Int).tmod 3) = ((m % 3 : Nat) : Int) := rfl
  rw [this, w64 (by omega) (by omega)]
  omega

theorem c4 {o : AV} {t : Tr} (ho : NSl .i32 o t.out) (n e x : Int) : PureC Tryd.prog ann 4 [trA o t, .int .i64 n, .int .i64 e, .int .i32 x] (.bool true) := by
  refine s_pure_of Tryd.func4 sl4 rfl rfl rfl ?_
  unfold S4
  show SRun _ _ _ _ _ _ _ (hset hp0 []) _
  (repeat (first | ((with_reducible apply o_valW); exact rfl; exact rfl; exact rfl; exact trivial) | with_reducible apply s_seq | with_reducible apply s_reg | with_reducible apply s_skip | with_reducible apply s_block | with_reducible apply s_exit | with_reducible apply s_ret | with_reducible apply o_nil | with_reducible apply ssq_norm | with_reducible apply ssq_exit | with_reducible apply ssq_ret | with_reducible apply sbq_hit | with_reducible apply sbq_norm | with_reducible apply sbq_ret | with_reducible apply slq_exit | with_reducible apply slq_ret | with_reducible apply jq_exit | with_reducible apply jq_ret | ((with_reducible apply s_condT); exact rfl) | ((with_reducible apply s_condF); exact rfl) | ((with_reducible apply o_guardT); exact rfl; exact rfl) | ((with_reducible apply o_guardF); exact rfl; exact rfl) | ((with_reducible apply sbq_miss); exact rfl)))
  ((with_reducible apply o_hboxL dis_nil); exact rfl; exact rfl; (exact (by simp only [trA, AV.cells, List.all_cons, ho.one]; rfl)); intro i1 hD1)
  (repeat (first | ((with_reducible apply o_valW); exact rfl; exact rfl; exact rfl; exact trivial) | with_reducible apply s_seq | with_reducible apply s_reg | with_reducible apply s_skip | with_reducible apply s_block | with_reducible apply s_exit | with_reducible apply s_ret | with_reducible apply o_nil | with_reducible apply ssq_norm | with_reducible apply ssq_exit | with_reducible apply ssq_ret | with_reducible apply sbq_hit | with_reducible apply sbq_norm | with_reducible apply sbq_ret | with_reducible apply slq_exit | with_reducible apply slq_ret | with_reducible apply jq_exit | with_reducible apply jq_ret | ((with_reducible apply s_condT); exact rfl) | ((with_reducible apply s_condF); exact rfl) | ((with_reducible apply o_guardT); exact rfl; exact rfl) | ((with_reducible apply o_guardF); exact rfl; exact rfl) | ((with_reducible apply sbq_miss); exact rfl)))
  ((try ((with_reducible apply o_guardT); exact rfl; exact rfl)); (with_reducible apply o_call); exact rfl; exact rfl; exact rfl; exact c6)
  (repeat (first | ((with_reducible apply o_valW); exact rfl; exact rfl; exact rfl; exact trivial) | with_reducible apply s_seq | with_reducible apply s_reg | with_reducible apply s_skip | with_reducible apply s_block | with_reducible apply s_exit | with_reducible apply s_ret | with_reducible apply o_nil | with_reducible apply ssq_norm | with_reducible apply ssq_exit | with_reducible apply ssq_ret | with_reducible apply sbq_hit | with_reducible apply sbq_norm | with_reducible apply sbq_ret | with_reducible apply slq_exit | with_reducible apply slq_ret | with_reducible apply jq_exit | with_reducible apply jq_ret | ((with_reducible apply s_condT); exact rfl) | ((with_reducible apply s_condF); exact rfl) | ((with_reducible apply o_guardT); exact rfl; exact rfl) | ((with_reducible apply o_guardF); exact rfl; exact rfl) | ((with_reducible apply sbq_miss); exact rfl)))
  ((try ((with_reducible apply o_guardT); exact rfl; exact rfl)); (with_reducible apply o_ldnL 0 hD1); exact rfl; exact rfl; exact rfl; exact rfl; exact rfl)
  ((try ((with_reducible apply o_guardT); exact rfl; exact rfl)); (with_reducible apply o_call); exact rfl; exact rfl; exact rfl; exact c7 ho)
  have ho2 := cutO_nsl (cutT t).out
  have h20 : (cutT t).out.length ≤ 20 := by simp only [cutT, List.length_take]; omega
  generalize cutT t = t2 at ho2 h20 ⊢
  generalize cutO t2.out = o2 at ho2 ⊢
  ((try ((with_reducible apply o_guardT); exact rfl; exact rfl)); (with_reducible apply o_stL 0 hD1); exact rfl; exact rfl; exact rfl; exact rfl; exact rfl; exact rfl; (exact (by simp only [trA, AV.cells, List.all_cons, ho2.one]; rfl)); exact rfl; clear hD1; intro hD1)
  (repeat (first | ((with_reducible apply o_valW); exact rfl; exact rfl; exact rfl; exact trivial) | with_reducible apply s_seq | with_reducible apply s_reg | with_reducible apply s_skip | with_reducible apply s_block | with_reducible apply s_exit | with_reducible apply s_ret | with_reducible apply o_nil | with_reducible apply ssq_norm | with_reducible apply ssq_exit | with_reducible apply ssq_ret | with_reducible apply sbq_hit | with_reducible apply sbq_norm | with_reducible apply sbq_ret | with_reducible apply slq_exit | with_reducible apply slq_ret | with_reducible apply jq_exit | with_reducible apply jq_ret | ((with_reducible apply s_condT); exact rfl) | ((with_reducible apply s_condF); exact rfl) | ((with_reducible apply o_guardT); exact rfl; exact rfl) | ((with_reducible apply o_guardF); exact rfl; exact rfl) | ((with_reducible apply sbq_miss); exact rfl)))
  change SOps _ _ _ _ _ _ _ ((20, AV.ptr i1 (0 + 1)) :: (19, AV.int .i64 (endF e)) :: _) _ _ _
  have hm := endF_or e
  generalize endF e = m at hm ⊢
  ((try ((with_reducible apply o_guardT); exact rfl; exact rfl)); (with_reducible apply o_stL 0 hD1); exact rfl; exact rfl; exact rfl; exact rfl; exact rfl; exact rfl; (exact rfl); exact rfl; clear hD1; intro hD1)
  (repeat (first | ((with_reducible apply o_valW); exact rfl; exact rfl; exact rfl; exact trivial) | with_reducible apply s_seq | with_reducible apply s_reg | with_reducible apply s_skip | with_reducible apply s_block | with_reducible apply s_exit | with_reducible apply s_ret | with_reducible apply o_nil | with_reducible apply ssq_norm | with_reducible apply ssq_exit | with_reducible apply ssq_ret | with_reducible apply sbq_hit | with_reducible apply sbq_norm | with_reducible apply sbq_ret | with_reducible apply slq_exit | with_reducible apply slq_ret | with_reducible apply jq_exit | with_reducible apply jq_ret | ((with_reducible apply s_condT); exact rfl) | ((with_reducible apply s_condF); exact rfl) | ((with_reducible apply o_guardT); exact rfl; exact rfl) | ((with_reducible apply o_guardF); exact rfl; exact rfl) | ((with_reducible apply sbq_miss); exact rfl)))
  ((try ((with_reducible apply o_guardT); exact rfl; exact rfl)); (with_reducible apply o_bool); exact rfl; exact rfl; exact trivial; intro b1 h1; cases b1)
  case true =>
    (repeat (first | ((with_reducible apply o_valW); exact rfl; exact rfl; exact rfl; exact trivial) | with_reducible apply s_seq | with_reducible apply s_reg | with_reducible apply s_skip | with_reducible apply s_block | with_reducible apply s_exit | with_reducible apply s_ret | with_reducible apply o_nil | with_reducible apply ssq_norm | with_reducible apply ssq_exit | with_reducible apply ssq_ret | with_reducible apply sbq_hit | with_reducible apply sbq_norm | with_reducible apply sbq_ret | with_reducible apply slq_exit | with_reducible apply slq_ret | with_reducible apply jq_exit | with_reducible apply jq_ret | ((with_reducible apply s_condT); exact rfl) | ((with_reducible apply s_condF); exact rfl) | ((with_reducible apply o_guardT); exact rfl; exact rfl) | ((with_reducible apply o_guardF); exact rfl; exact rfl) | ((with_reducible apply sbq_miss); exact rfl)))
    (first | apply sret_ret | apply sret_norm); exact res_tmp (vs := [_]) rfl rfl
  (repeat (first | ((with_reducible apply o_valW); exact rfl; exact rfl; exact rfl; exact trivial) | with_reducible apply s_seq | with_reducible apply s_reg | with_reducible apply s_skip | with_reducible apply s_block | with_reducible apply s_exit | with_reducible apply s_ret | with_reducible apply o_nil | with_reducible apply ssq_norm | with_reducible apply ssq_exit | with_reducible apply ssq_ret | with_reducible apply sbq_hit | with_reducible apply sbq_norm | with_reducible apply sbq_ret | with_reducible apply slq_exit | with_reducible apply slq_ret | with_reducible apply jq_exit | with_reducible apply jq_ret | ((with_reducible apply s_condT); exact rfl) | ((with_reducible apply s_condF); exact rfl) | ((with_reducible apply o_guardT); exact rfl; exact rfl) | ((with_reducible apply o_guardF); exact rfl; exact rfl) | ((with_reducible apply sbq_miss); exact rfl)))
  ((try ((with_reducible apply o_guardT); exact rfl; exact rfl)); (with_reducible apply o_ldL 0 hD1); exact rfl; exact rfl; exact rfl; exact rfl; exact rfl)
  (repeat (first | ((with_reducible apply o_valW); exact rfl; exact rfl; exact rfl; exact trivial) | with_reducible apply s_seq | with_reducible apply s_reg | with_reducible apply s_skip | with_reducible apply s_block | with_reducible apply s_exit | with_reducible apply s_ret | with_reducible apply o_nil | with_reducible apply ssq_norm | with_reducible apply ssq_exit | with_reducible apply ssq_ret | with_reducible apply sbq_hit | with_reducible apply sbq_norm | with_reducible apply sbq_ret | with_reducible apply slq_exit | with_reducible apply slq_ret | with_reducible apply jq_exit | with_reducible apply jq_ret | ((with_reducible apply s_condT); exact rfl) | ((with_reducible apply s_condF); exact rfl) | ((with_reducible apply o_guardT); exact rfl; exact rfl) | ((with_reducible apply o_guardF); exact rfl; exact rfl) | ((with_reducible apply sbq_miss); exact rfl)))
  apply o_lenT rfl rfl ho2
  ((try ((with_reducible apply o_guardT); exact rfl; exact rfl)); (with_reducible apply o_bool); exact rfl; exact rfl; exact trivial; intro b2 h2; cases b2)
  case true =>
    (repeat (first | ((with_reducible apply o_valW); exact rfl; exact rfl; exact rfl; exact trivial) | with_reducible apply s_seq | with_reducible apply s_reg | with_reducible apply s_skip | with_reducible apply s_block | with_reducible apply s_exit | with_reducible apply s_ret | with_reducible apply o_nil | with_reducible apply ssq_norm | with_reducible apply ssq_exit | with_reducible apply ssq_ret | with_reducible apply sbq_hit | with_reducible apply sbq_norm | with_reducible apply sbq_ret | with_reducible apply slq_exit | with_reducible apply slq_ret | with_reducible apply jq_exit | with_reducible apply jq_ret | ((with_reducible apply s_condT); exact rfl) | ((with_reducible apply s_condF); exact rfl) | ((with_reducible apply o_guardT); exact rfl; exact rfl) | ((with_reducible apply o_guardF); exact rfl; exact rfl) | ((with_reducible apply sbq_miss); exact rfl)))
    (first | apply sret_ret | apply sret_norm); exact res_tmp (vs := [_]) rfl rfl
  have hn0 : 0 ≤ n := by simpa using h1
  have hnl : n ≤ t2.out.length := by simpa using h2
  obtain ⟨k, rfl⟩ := Int.eq_ofNat_of_zero_le hn0
  have hk : k ≤ t2.out.length := by omega
  (repeat (first | ((with_reducible apply o_valW); exact rfl; exact rfl; exact rfl; exact trivial) | with_reducible apply s_seq | with_reducible apply s_reg | with_reducible apply s_skip | with_reducible apply s_block | with_reducible apply s_exit | with_reducible apply s_ret | with_reducible apply o_nil | with_reducible apply ssq_norm | with_reducible apply ssq_exit | with_reducible apply ssq_ret | with_reducible apply sbq_hit | with_reducible apply sbq_norm | with_reducible apply sbq_ret | with_reducible apply slq_exit | with_reducible apply slq_ret | with_reducible apply jq_exit | with_reducible apply jq_ret | ((with_reducible apply s_condT); exact rfl) | ((with_reducible apply s_condF); exact rfl) | ((with_reducible apply o_guardT); exact rfl; exact rfl) | ((with_reducible apply o_guardF); exact rfl; exact rfl) | ((with_reducible apply sbq_miss); exact rfl)))
  ((try ((with_reducible apply o_guardT); exact rfl; exact rfl)); (with_reducible apply o_ldL 0 hD1); exact rfl; exact rfl; exact rfl; exact rfl; exact rfl)
  (repeat (first | ((with_reducible apply o_valW); exact rfl; exact rfl; exact rfl; exact trivial) | with_reducible apply s_seq | with_reducible apply s_reg | with_reducible apply s_skip | with_reducible apply s_block | with_reducible apply s_exit | with_reducible apply s_ret | with_reducible apply o_nil | with_reducible apply ssq_norm | with_reducible apply ssq_exit | with_reducible apply ssq_ret | with_reducible apply sbq_hit | with_reducible apply sbq_norm | with_reducible apply sbq_ret | with_reducible apply slq_exit | with_reducible apply slq_ret | with_reducible apply jq_exit | with_reducible apply jq_ret | ((with_reducible apply s_condT); exact rfl) | ((with_reducible apply s_condF); exact rfl) | ((with_reducible apply o_guardT); exact rfl; exact rfl) | ((with_reducible apply o_guardF); exact rfl; exact rfl) | ((with_reducible apply sbq_miss); exact rfl)))
  refine o_sltN (a := 0) (b := k) rfl rfl ho2 rfl rfl (by omega) hk fun w1 hw1 => ?_
  rw [List.drop_zero] at hw1
  (repeat (first | ((with_reducible apply o_valW); exact rfl; exact rfl; exact rfl; exact trivial) | with_reducible apply s_seq | with_reducible apply s_reg | with_reducible apply s_skip | with_reducible apply s_block | with_reducible apply s_exit | with_reducible apply s_ret | with_reducible apply o_nil | with_reducible apply ssq_norm | with_reducible apply ssq_exit | with_reducible apply ssq_ret | with_reducible apply sbq_hit | with_reducible apply sbq_norm | with_reducible apply sbq_ret | with_reducible apply slq_exit | with_reducible apply slq_ret | with_reducible apply jq_exit | with_reducible apply jq_ret | ((with_reducible apply s_condT); exact rfl) | ((with_reducible apply s_condF); exact rfl) | ((with_reducible apply o_guardT); exact rfl; exact rfl) | ((with_reducible apply o_guardF); exact rfl; exact rfl) | ((with_reducible apply sbq_miss); exact rfl)))
  apply o_val rfl rfl (by decide)
  (repeat (first | ((with_reducible apply o_valW); exact rfl; exact rfl; exact rfl; exact trivial) | with_reducible apply s_seq | with_reducible apply s_reg | with_reducible apply s_skip | with_reducible apply s_block | with_reducible apply s_exit | with_reducible apply s_ret | with_reducible apply o_nil | with_reducible apply ssq_norm | with_reducible apply ssq_exit | with_reducible apply ssq_ret | with_reducible apply sbq_hit | with_reducible apply sbq_norm | with_reducible apply sbq_ret | with_reducible apply slq_exit | with_reducible apply slq_ret | with_reducible apply jq_exit | with_reducible apply jq_ret | ((with_reducible apply s_condT); exact rfl) | ((with_reducible apply s_condF); exact rfl) | ((with_reducible apply o_guardT); exact rfl; exact rfl) | ((with_reducible apply o_guardF); exact rfl; exact rfl) | ((with_reducible apply sbq_miss); exact rfl)))
  change SOps _ _ _ _ _ _ _ ((37, AV.int .i64 (endU e)) :: _) _ _ _
  have hm2 := endU_in e
  generalize endU e = m2 at hm2 ⊢
  apply o_bld rfl (fill_one rfl hw1.one rfl (fill_one rfl rfl rfl fill_nil))
  ((with_reducible apply o_alcL hD1); exact rfl; intro i2 hD2)
  ((try ((with_reducible apply o_guardT); exact rfl; exact rfl)); (with_reducible apply o_stL 0 hD2); exact rfl; exact rfl; exact rfl; exact rfl; exact rfl; exact rfl; (exact (by simp only [AV.cells, List.all_cons, hw1.one]; rfl)); exact rfl; clear hD2; intro hD2)
  (repeat (first | ((with_reducible apply o_valW); exact rfl; exact rfl; exact rfl; exact trivial) | with_reducible apply s_seq | with_reducible apply s_reg | with_reducible apply s_skip | with_reducible apply s_block | with_reducible apply s_exit | with_reducible apply s_ret | with_reducible apply o_nil | with_reducible apply ssq_norm | with_reducible apply ssq_exit | with_reducible apply ssq_ret | with_reducible apply sbq_hit | with_reducible apply sbq_norm | with_reducible apply sbq_ret | with_reducible apply slq_exit | with_reducible apply slq_ret | with_reducible apply jq_exit | with_reducible apply jq_ret | ((with_reducible apply s_condT); exact rfl) | ((with_reducible apply s_condF); exact rfl) | ((with_reducible apply o_guardT); exact rfl; exact rfl) | ((with_reducible apply o_guardF); exact rfl; exact rfl) | ((with_reducible apply sbq_miss); exact rfl)))
  ((try ((with_reducible apply o_guardT); exact rfl; exact rfl)); (with_reducible apply o_ldnL 1 hD2); exact rfl; exact rfl; exact rfl; exact rfl; exact rfl)
  ((with_reducible apply o_alcL hD2); exact rfl; intro i3 hD3)
  ((try ((with_reducible apply o_guardT); exact rfl; exact rfl)); (with_reducible apply o_stL 0 hD3); exact rfl; exact rfl; exact rfl; exact rfl; exact rfl; exact rfl; (exact (by change List.all [o2, AV.int .i64 m, AV.int .i32 t2.c, AV.str t2.s] AV.one = true; simp only [List.all_cons, ho2.one]; rfl)); exact rfl; clear hD3; intro hD3)
  (repeat (first | ((with_reducible apply o_valW); exact rfl; exact rfl; exact rfl; exact trivial) | with_reducible apply s_seq | with_reducible apply s_reg | with_reducible apply s_skip | with_reducible apply s_block | with_reducible apply s_exit | with_reducible apply s_ret | with_reducible apply o_nil | with_reducible apply ssq_norm | with_reducible apply ssq_exit | with_reducible apply ssq_ret | with_reducible apply sbq_hit | with_reducible apply sbq_norm | with_reducible apply sbq_ret | with_reducible apply slq_exit | with_reducible apply slq_ret | with_reducible apply jq_exit | with_reducible apply jq_ret | ((with_reducible apply s_condT); exact rfl) | ((with_reducible apply s_condF); exact rfl) | ((with_reducible apply o_guardT); exact rfl; exact rfl) | ((with_reducible apply o_guardF); exact rfl; exact rfl) | ((with_reducible apply sbq_miss); exact rfl)))
  ((try ((with_reducible apply o_guardT); exact rfl; exact rfl)); (with_reducible apply o_ldL 2 hD3); exact rfl; exact rfl; exact rfl; exact rfl; exact rfl)
  (repeat (first | ((with_reducible apply o_valW); exact rfl; exact rfl; exact rfl; exact trivial) | with_reducible apply s_seq | with_reducible apply s_reg | with_reducible apply s_skip | with_reducible apply s_block | with_reducible apply s_exit | with_reducible apply s_ret | with_reducible apply o_nil | with_reducible apply ssq_norm | with_reducible apply ssq_exit | with_reducible apply ssq_ret | with_reducible apply sbq_hit | with_reducible apply sbq_norm | with_reducible apply sbq_ret | with_reducible apply slq_exit | with_reducible apply slq_ret | with_reducible apply jq_exit | with_reducible apply jq_ret | ((with_reducible apply s_condT); exact rfl) | ((with_reducible apply s_condF); exact rfl) | ((with_reducible apply o_guardT); exact rfl; exact rfl) | ((with_reducible apply o_guardF); exact rfl; exact rfl) | ((with_reducible apply sbq_miss); exact rfl)))
  refine o_sltN (a := 0) (b := k) rfl rfl ho2 rfl rfl (by omega) hk fun w2 hw2 => ?_
  rw [List.drop_zero] at hw2
  have hkl : (t2.out.take k).length = k := by rw [List.length_take]; omega
  refine o_app rfl rfl rfl .nil (srcOf_T hw2) (by simp [nums]) nums_one (by omega) (.inl rfl) (fun h => absurd h (by decide)) fun v1 h1' hv1 => ?_
  (repeat (first | ((with_reducible apply o_valW); exact rfl; exact rfl; exact rfl; exact trivial) | with_reducible apply s_seq | with_reducible apply s_reg | with_reducible apply s_skip | with_reducible apply s_block | with_reducible apply s_exit | with_reducible apply s_ret | with_reducible apply o_nil | with_reducible apply ssq_norm | with_reducible apply ssq_exit | with_reducible apply ssq_ret | with_reducible apply sbq_hit | with_reducible apply sbq_norm | with_reducible apply sbq_ret | with_reducible apply slq_exit | with_reducible apply slq_ret | with_reducible apply jq_exit | with_reducible apply jq_ret | ((with_reducible apply s_condT); exact rfl) | ((with_reducible apply s_condF); exact rfl) | ((with_reducible apply o_guardT); exact rfl; exact rfl) | ((with_reducible apply o_guardF); exact rfl; exact rfl) | ((with_reducible apply sbq_miss); exact rfl)))
  apply o_bslT rfl rfl rfl rfl
  refine o_appT (new := nums .i32 [x]) (n := 1) rfl rfl rfl hv1 rfl rfl rfl (by omega) (.inl rfl) (fun h => absurd h (by decide)) fun v2 hv2 => ?_
  have hv2 : NSl .i32 v2 (t2.out.take k ++ [x]) := by
    unfold NSl
    rw [List.nil_append, nums_append] at hv2
    rw [List.length_append]
    simpa using hv2
  have hvc : v2.cells = [v2] := by
    have := hv2.one
    cases v2 <;> first | rfl | cases this
  (repeat (first | ((with_reducible apply o_valW); exact rfl; exact rfl; exact rfl; exact trivial) | with_reducible apply s_seq | with_reducible apply s_reg | with_reducible apply s_skip | with_reducible apply s_block | with_reducible apply s_exit | with_reducible apply s_ret | with_reducible apply o_nil | with_reducible apply ssq_norm | with_reducible apply ssq_exit | with_reducible apply ssq_ret | with_reducible apply sbq_hit | with_reducible apply sbq_norm | with_reducible apply sbq_ret | with_reducible apply slq_exit | with_reducible apply slq_ret | with_reducible apply jq_exit | with_reducible apply jq_ret | ((with_reducible apply s_condT); exact rfl) | ((with_reducible apply s_condF); exact rfl) | ((with_reducible apply o_guardT); exact rfl; exact rfl) | ((with_reducible apply o_guardF); exact rfl; exact rfl) | ((with_reducible apply sbq_miss); exact rfl)))
  ((with_reducible apply o_stL 0 hD3); exact rfl; exact rfl; exact rfl; exact rfl; exact rfl; (exact by rw [hvc]; rfl); (exact by rw [hvc]; simp [hv2.one]); (exact by rw [hvc]; exact rfl); clear hD3; intro hD3)
  (repeat (first | ((with_reducible apply o_valW); exact rfl; exact rfl; exact rfl; exact trivial) | with_reducible apply s_seq | with_reducible apply s_reg | with_reducible apply s_skip | with_reducible apply s_block | with_reducible apply s_exit | with_reducible apply s_ret | with_reducible apply o_nil | with_reducible apply ssq_norm | with_reducible apply ssq_exit | with_reducible apply ssq_ret | with_reducible apply sbq_hit | with_reducible apply sbq_norm | with_reducible apply sbq_ret | with_reducible apply slq_exit | with_reducible apply slq_ret | with_reducible apply jq_exit | with_reducible apply jq_ret | ((with_reducible apply s_condT); exact rfl) | ((with_reducible apply s_condF); exact rfl) | ((with_reducible apply o_guardT); exact rfl; exact rfl) | ((with_reducible apply o_guardF); exact rfl; exact rfl) | ((with_reducible apply sbq_miss); exact rfl)))
  let T : Tr := ⟨t2.out, m, t2.c, t2.s⟩
  let U : Tr := ⟨t2.out.take k, m2, 0, []⟩
  let V : Tr := ⟨t2.out.take k ++ [x], m, t2.c, t2.s⟩
  have hT : NSl .i32 o2 T.out := ho2
  have hU : NSl .i32 w1 U.out := hw1
  have hV : NSl .i32 v2 V.out := hv2
  have lT : T.out.length ≤ 9223372036854775807 := Nat.le_trans h20 (by omega)
  have lU : U.out.length ≤ 9223372036854775807 := by show (t2.out.take k).length ≤ _; omega
  have lV : V.out.length ≤ 9223372036854775807 := by show (t2.out.take k ++ [x]).length ≤ _; rw [List.length_append, hkl]; simp; omega
  have wT : whole T = true := by
    show (decide (m = 1) || decide (m = 2)) = true
    rcases hm with rfl | rfl <;> rfl
  have wV : whole V = true := wT
  have wU : whole U = false := by
    show (decide (m2 = 1) || decide (m2 = 2)) = false
    rw [decide_eq_false (by omega), decide_eq_false (by omega)]; rfl
  have bUT : begins U T = true := by
    show (decide ((t2.out.take k).length ≤ t2.out.length) && decide (t2.out.take k = t2.out.take (t2.out.take k).length)) = true
    rw [hkl, decide_eq_true hk]
    simp
  have aTU : agree T U = true := by
    unfold agree
    rw [wT, wU, bUT]; rfl
  have aUT : agree U T = true := by
    unfold agree
    rw [wT, wU, bUT]; rfl
  have sTT : same T T = true := by unfold same; simp
  have aTT : agree T T = true := by
    unfold agree
    rw [wT, sTT]; rfl
  have aTV : agree T V = same T V := by
    unfold agree
    rw [wT, wV]; rfl
  have sTV : same T V = decide (t2.out = t2.out.take k ++ [x]) := by
    show (decide (t2.out = t2.out.take k ++ [x]) && (decide (m = m) && (decide (t2.c = t2.c) && decide (t2.s = t2.s)))) = _
    simp
  ((try ((with_reducible apply o_guardT); exact rfl; exact rfl)); (with_reducible apply o_ldnQ 2 hD3); exact rfl; exact rfl; exact rfl; exact rfl)
  ((try ((with_reducible apply o_guardT); exact rfl; exact rfl)); (with_reducible apply o_ldnQ 1 hD3); exact rfl; exact rfl; exact rfl; exact rfl)
  ((try ((with_reducible apply o_guardT); exact rfl; exact rfl)); (with_reducible apply o_call); exact rfl; exact rfl; exact rfl; exact c12 hT hU lT lU)
  rw [aTU]
  (repeat (first | ((with_reducible apply o_valW); exact rfl; exact rfl; exact rfl; exact trivial) | with_reducible apply s_seq | with_reducible apply s_reg | with_reducible apply s_skip | with_reducible apply s_block | with_reducible apply s_exit | with_reducible apply s_ret | with_reducible apply o_nil | with_reducible apply ssq_norm | with_reducible apply ssq_exit | with_reducible apply ssq_ret | with_reducible apply sbq_hit | with_reducible apply sbq_norm | with_reducible apply sbq_ret | with_reducible apply slq_exit | with_reducible apply slq_ret | with_reducible apply jq_exit | with_reducible apply jq_ret | ((with_reducible apply s_condT); exact rfl) | ((with_reducible apply s_condF); exact rfl) | ((with_reducible apply o_guardT); exact rfl; exact rfl) | ((with_reducible apply o_guardF); exact rfl; exact rfl) | ((with_reducible apply sbq_miss); exact rfl)))
  ((try ((with_reducible apply o_guardT); exact rfl; exact rfl)); (with_reducible apply o_ldnQ 1 hD3); exact rfl; exact rfl; exact rfl; exact rfl)
  ((try ((with_reducible apply o_guardT); exact rfl; exact rfl)); (with_reducible apply o_ldnQ 2 hD3); exact rfl; exact rfl; exact rfl; exact rfl)
  ((try ((with_reducible apply o_guardT); exact rfl; exact rfl)); (with_reducible apply o_call); exact rfl; exact rfl; exact rfl; exact c12 hU hT lU lT)
  rw [aUT]
  (repeat (first | ((with_reducible apply o_valW); exact rfl; exact rfl; exact rfl; exact trivial) | with_reducible apply s_seq | with_reducible apply s_reg | with_reducible apply s_skip | with_reducible apply s_block | with_reducible apply s_exit | with_reducible apply s_ret | with_reducible apply o_nil | with_reducible apply ssq_norm | with_reducible apply ssq_exit | with_reducible apply ssq_ret | with_reducible apply sbq_hit | with_reducible apply sbq_norm | with_reducible apply sbq_ret | with_reducible apply slq_exit | with_reducible apply slq_ret | with_reducible apply jq_exit | with_reducible apply jq_ret | ((with_reducible apply s_condT); exact rfl) | ((with_reducible apply s_condF); exact rfl) | ((with_reducible apply o_guardT); exact rfl; exact rfl) | ((with_reducible apply o_guardF); exact rfl; exact rfl) | ((with_reducible apply sbq_miss); exact rfl)))
  ((try ((with_reducible apply o_guardT); exact rfl; exact rfl)); (with_reducible apply o_ldnQ 1 hD3); exact rfl; exact rfl; exact rfl; exact rfl)
  ((try ((with_reducible apply o_guardT); exact rfl; exact rfl)); (with_reducible apply o_ldnQ 2 hD3); exact rfl; exact rfl; exact rfl; exact rfl)
  ((try ((with_reducible apply o_guardT); exact rfl; exact rfl)); (with_reducible apply o_call); exact rfl; exact rfl; exact rfl; exact c11 hU hT lU)
  rw [bUT]
  (repeat (first | ((with_reducible apply o_valW); exact rfl; exact rfl; exact rfl; exact trivial) | with_reducible apply s_seq | with_reducible apply s_reg | with_reducible apply s_skip | with_reducible apply s_block | with_reducible apply s_exit | with_reducible apply s_ret | with_reducible apply o_nil | with_reducible apply ssq_norm | with_reducible apply ssq_exit | with_reducible apply ssq_ret | with_reducible apply sbq_hit | with_reducible apply sbq_norm | with_reducible apply sbq_ret | with_reducible apply slq_exit | with_reducible apply slq_ret | with_reducible apply jq_exit | with_reducible apply jq_ret | ((with_reducible apply s_condT); exact rfl) | ((with_reducible apply s_condF); exact rfl) | ((with_reducible apply o_guardT); exact rfl; exact rfl) | ((with_reducible apply o_guardF); exact rfl; exact rfl) | ((with_reducible apply sbq_miss); exact rfl)))
  ((try ((with_reducible apply o_guardT); exact rfl; exact rfl)); (with_reducible apply o_ldnQ 2 hD3); exact rfl; exact rfl; exact rfl; exact rfl)
  ((try ((with_reducible apply o_guardT); exact rfl; exact rfl)); (with_reducible apply o_ldnQ 2 hD3); exact rfl; exact rfl; exact rfl; exact rfl)
  ((try ((with_reducible apply o_guardT); exact rfl; exact rfl)); (with_reducible apply o_call); exact rfl; exact rfl; exact rfl; exact c12 hT hT lT lT)
  rw [aTT]
  (repeat (first | ((with_reducible apply o_valW); exact rfl; exact rfl; exact rfl; exact trivial) | with_reducible apply s_seq | with_reducible apply s_reg | with_reducible apply s_skip | with_reducible apply s_block | with_reducible apply s_exit | with_reducible apply s_ret | with_reducible apply o_nil | with_reducible apply ssq_norm | with_reducible apply ssq_exit | with_reducible apply ssq_ret | with_reducible apply sbq_hit | with_reducible apply sbq_norm | with_reducible apply sbq_ret | with_reducible apply slq_exit | with_reducible apply slq_ret | with_reducible apply jq_exit | with_reducible apply jq_ret | ((with_reducible apply s_condT); exact rfl) | ((with_reducible apply s_condF); exact rfl) | ((with_reducible apply o_guardT); exact rfl; exact rfl) | ((with_reducible apply o_guardF); exact rfl; exact rfl) | ((with_reducible apply sbq_miss); exact rfl)))
  ((try ((with_reducible apply o_guardT); exact rfl; exact rfl)); (with_reducible apply o_ldnQ 2 hD3); exact rfl; exact rfl; exact rfl; exact rfl)
  ((try ((with_reducible apply o_guardT); exact rfl; exact rfl)); (with_reducible apply o_ldnQ 0 hD3); exact rfl; exact rfl; exact rfl; exact rfl)
  ((try ((with_reducible apply o_guardT); exact rfl; exact rfl)); (with_reducible apply o_call); exact rfl; exact rfl; exact rfl; exact c12 hT hV lT lV)
  rw [aTV]
  (repeat (first | ((with_reducible apply o_valW); exact rfl; exact rfl; exact rfl; exact trivial) | with_reducible apply s_seq | with_reducible apply s_reg | with_reducible apply s_skip | with_reducible apply s_block | with_reducible apply s_exit | with_reducible apply s_ret | with_reducible apply o_nil | with_reducible apply ssq_norm | with_reducible apply ssq_exit | with_reducible apply ssq_ret | with_reducible apply sbq_hit | with_reducible apply sbq_norm | with_reducible apply sbq_ret | with_reducible apply slq_exit | with_reducible apply slq_ret | with_reducible apply jq_exit | with_reducible apply jq_ret | ((with_reducible apply s_condT); exact rfl) | ((with_reducible apply s_condF); exact rfl) | ((with_reducible apply o_guardT); exact rfl; exact rfl) | ((with_reducible apply o_guardF); exact rfl; exact rfl) | ((with_reducible apply sbq_miss); exact rfl)))
  ((try ((with_reducible apply o_guardT); exact rfl; exact rfl)); (with_reducible apply o_ldnQ 2 hD3); exact rfl; exact rfl; exact rfl; exact rfl)
  ((try ((with_reducible apply o_guardT); exact rfl; exact rfl)); (with_reducible apply o_ldnQ 0 hD3); exact rfl; exact rfl; exact rfl; exact rfl)
  ((try ((with_reducible apply o_guardT); exact rfl; exact rfl)); (with_reducible apply o_call); exact rfl; exact rfl; exact rfl; exact c9 hT hV lT)
  (first | ((with_reducible apply o_valW); exact rfl; exact rfl; exact rfl; exact trivial) | with_reducible apply s_seq | with_reducible apply s_reg | with_reducible apply s_skip | with_reducible apply s_block | with_reducible apply s_exit | with_reducible apply s_ret | with_reducible apply o_nil | with_reducible apply ssq_norm | with_reducible apply ssq_exit | with_reducible apply ssq_ret | with_reducible apply sbq_hit | with_reducible apply sbq_norm | with_reducible apply sbq_ret | with_reducible apply slq_exit | with_reducible apply slq_ret | with_reducible apply jq_exit | with_reducible apply jq_ret | ((with_reducible apply s_condT); exact rfl) | ((with_reducible apply s_condF); exact rfl) | ((with_reducible apply o_guardT); exact rfl; exact rfl) | ((with_reducible apply o_guardF); exact rfl; exact rfl) | ((with_reducible apply sbq_miss); exact rfl))
  apply o_true rfl rfl trivial (by simp)
  (repeat (first | ((with_reducible apply o_valW); exact rfl; exact rfl; exact rfl; exact trivial) | with_reducible apply s_seq | with_reducible apply s_reg | with_reducible apply s_skip | with_reducible apply s_block | with_reducible apply s_exit | with_reducible apply s_ret | with_reducible apply o_nil | with_reducible apply ssq_norm | with_reducible apply ssq_exit | with_reducible apply ssq_ret | with_reducible apply sbq_hit | with_reducible apply sbq_norm | with_reducible apply sbq_ret | with_reducible apply slq_exit | with_reducible apply slq_ret | with_reducible apply jq_exit | with_reducible apply jq_ret | ((with_reducible apply s_condT); exact rfl) | ((with_reducible apply s_condF); exact rfl) | ((with_reducible apply o_guardT); exact rfl; exact rfl) | ((with_reducible apply o_guardF); exact rfl; exact rfl) | ((with_reducible apply sbq_miss); exact rfl)))
  ((try ((with_reducible apply o_guardT); exact rfl; exact rfl)); (with_reducible apply o_ldnQ 2 hD3); exact rfl; exact rfl; exact rfl; exact rfl)
  ((try ((with_reducible apply o_guardT); exact rfl; exact rfl)); (with_reducible apply o_ldnQ 0 hD3); exact rfl; exact rfl; exact rfl; exact rfl)
  ((try ((with_reducible apply o_guardT); exact rfl; exact rfl)); (with_reducible apply o_call); exact rfl; exact rfl; exact rfl; exact c9 hT hV lT)
  rw [sTV]
  (repeat (first | ((with_reducible apply o_valW); exact rfl; exact rfl; exact rfl; exact trivial) | with_reducible apply s_seq | with_reducible apply s_reg | with_reducible apply s_skip | with_reducible apply s_block | with_reducible apply s_exit | with_reducible apply s_ret | with_reducible apply o_nil | with_reducible apply ssq_norm | with_reducible apply ssq_exit | with_reducible apply ssq_ret | with_reducible apply sbq_hit | with_reducible apply sbq_norm | with_reducible apply sbq_ret | with_reducible apply slq_exit | with_reducible apply slq_ret | with_reducible apply jq_exit | with_reducible apply jq_ret | ((with_reducible apply s_condT); exact rfl) | ((with_reducible apply s_condF); exact rfl) | ((with_reducible apply o_guardT); exact rfl; exact rfl) | ((with_reducible apply o_guardF); exact rfl; exact rfl) | ((with_reducible apply sbq_miss); exact rfl)))
  ((try ((with_reducible apply o_guardT); exact rfl; exact rfl)); (with_reducible apply o_ldQ 2 hD3); exact rfl; exact rfl; exact rfl; exact rfl)
  (repeat (first | ((with_reducible apply o_valW); exact rfl; exact rfl; exact rfl; exact trivial) | with_reducible apply s_seq | with_reducible apply s_reg | with_reducible apply s_skip | with_reducible apply s_block | with_reducible apply s_exit | with_reducible apply s_ret | with_reducible apply o_nil | with_reducible apply ssq_norm | with_reducible apply ssq_exit | with_reducible apply ssq_ret | with_reducible apply sbq_hit | with_reducible apply sbq_norm | with_reducible apply sbq_ret | with_reducible apply slq_exit | with_reducible apply slq_ret | with_reducible apply jq_exit | with_reducible apply jq_ret | ((with_reducible apply s_condT); exact rfl) | ((with_reducible apply s_condF); exact rfl) | ((with_reducible apply o_guardT); exact rfl; exact rfl) | ((with_reducible apply o_guardF); exact rfl; exact rfl) | ((with_reducible apply sbq_miss); exact rfl)))
  apply o_lenT rfl rfl ho2
  (first | ((with_reducible apply o_valW); exact rfl; exact rfl; exact rfl; exact trivial) | with_reducible apply s_seq | with_reducible apply s_reg | with_reducible apply s_skip | with_reducible apply s_block | with_reducible apply s_exit | with_reducible apply s_ret | with_reducible apply o_nil | with_reducible apply ssq_norm | with_reducible apply ssq_exit | with_reducible apply ssq_ret | with_reducible apply sbq_hit | with_reducible apply sbq_norm | with_reducible apply sbq_ret | with_reducible apply slq_exit | with_reducible apply slq_ret | with_reducible apply jq_exit | with_reducible apply jq_ret | ((with_reducible apply s_condT); exact rfl) | ((with_reducible apply s_condF); exact rfl) | ((with_reducible apply o_guardT); exact rfl; exact rfl) | ((with_reducible apply o_guardF); exact rfl; exact rfl) | ((with_reducible apply sbq_miss); exact rfl))
  apply o_int rfl rfl trivial (w64 (by omega) (by omega))
  ((try ((with_reducible apply o_guardT); exact rfl; exact rfl)); (with_reducible apply o_bool); exact rfl; exact rfl; exact trivial; intro b3 h3; cases b3)
  case false =>
    have : decide (t2.out = t2.out.take k ++ [x]) = false := by
      simp only [decide_eq_false_iff_not]
      intro he
      have := congrArg List.length he
      rw [List.length_append, hkl] at this
      simp at this h3
      omega
    rw [this]
    (repeat (first | ((with_reducible apply o_valW); exact rfl; exact rfl; exact rfl; exact trivial) | with_reducible apply s_seq | with_reducible apply s_reg | with_reducible apply s_skip | with_reducible apply s_block | with_reducible apply s_exit | with_reducible apply s_ret | with_reducible apply o_nil | with_reducible apply ssq_norm | with_reducible apply ssq_exit | with_reducible apply ssq_ret | with_reducible apply sbq_hit | with_reducible apply sbq_norm | with_reducible apply sbq_ret | with_reducible apply slq_exit | with_reducible apply slq_ret | with_reducible apply jq_exit | with_reducible apply jq_ret | ((with_reducible apply s_condT); exact rfl) | ((with_reducible apply s_condF); exact rfl) | ((with_reducible apply o_guardT); exact rfl; exact rfl) | ((with_reducible apply o_guardF); exact rfl; exact rfl) | ((with_reducible apply sbq_miss); exact rfl)))
    (first | apply sret_ret | apply sret_norm); exact res_tmp (vs := [_]) rfl rfl
  have hkn : k + 1 = t2.out.length := by simp at h3; omega
  (repeat (first | ((with_reducible apply o_valW); exact rfl; exact rfl; exact rfl; exact trivial) | with_reducible apply s_seq | with_reducible apply s_reg | with_reducible apply s_skip | with_reducible apply s_block | with_reducible apply s_exit | with_reducible apply s_ret | with_reducible apply o_nil | with_reducible apply ssq_norm | with_reducible apply ssq_exit | with_reducible apply ssq_ret | with_reducible apply sbq_hit | with_reducible apply sbq_norm | with_reducible apply sbq_ret | with_reducible apply slq_exit | with_reducible apply slq_ret | with_reducible apply jq_exit | with_reducible apply jq_ret | ((with_reducible apply s_condT); exact rfl) | ((with_reducible apply s_condF); exact rfl) | ((with_reducible apply o_guardT); exact rfl; exact rfl) | ((with_reducible apply o_guardF); exact rfl; exact rfl) | ((with_reducible apply sbq_miss); exact rfl)))
  ((try ((with_reducible apply o_guardT); exact rfl; exact rfl)); (with_reducible apply o_ldQ 2 hD3); exact rfl; exact rfl; exact rfl; exact rfl)
  (repeat (first | ((with_reducible apply o_valW); exact rfl; exact rfl; exact rfl; exact trivial) | with_reducible apply s_seq | with_reducible apply s_reg | with_reducible apply s_skip | with_reducible apply s_block | with_reducible apply s_exit | with_reducible apply s_ret | with_reducible apply o_nil | with_reducible apply ssq_norm | with_reducible apply ssq_exit | with_reducible apply ssq_ret | with_reducible apply sbq_hit | with_reducible apply sbq_norm | with_reducible apply sbq_ret | with_reducible apply slq_exit | with_reducible apply slq_ret | with_reducible apply jq_exit | with_reducible apply jq_ret | ((with_reducible apply s_condT); exact rfl) | ((with_reducible apply s_condF); exact rfl) | ((with_reducible apply o_guardT); exact rfl; exact rfl) | ((with_reducible apply o_guardF); exact rfl; exact rfl) | ((with_reducible apply sbq_miss); exact rfl)))
  apply o_lenT rfl rfl ho2
  ((try ((with_reducible apply o_guardT); exact rfl; exact rfl)); (with_reducible apply o_bool); exact rfl; exact rfl; exact trivial; intro b4 h4; cases b4)
  case false =>
    exfalso
    have : (0 : Int) < t2.out.length := by omega
    rw [decide_eq_true this] at h4
    cases h4
  (repeat (first | ((with_reducible apply o_valW); exact rfl; exact rfl; exact rfl; exact trivial) | with_reducible apply s_seq | with_reducible apply s_reg | with_reducible apply s_skip | with_reducible apply s_block | with_reducible apply s_exit | with_reducible apply s_ret | with_reducible apply o_nil | with_reducible apply ssq_norm | with_reducible apply ssq_exit | with_reducible apply ssq_ret | with_reducible apply sbq_hit | with_reducible apply sbq_norm | with_reducible apply sbq_ret | with_reducible apply slq_exit | with_reducible apply slq_ret | with_reducible apply jq_exit | with_reducible apply jq_ret | ((with_reducible apply s_condT); exact rfl) | ((with_reducible apply s_condF); exact rfl) | ((with_reducible apply o_guardT); exact rfl; exact rfl) | ((with_reducible apply o_guardF); exact rfl; exact rfl) | ((with_reducible apply sbq_miss); exact rfl)))
  ((try ((with_reducible apply o_guardT); exact rfl; exact rfl)); (with_reducible apply o_ldQ 2 hD3); exact rfl; exact rfl; exact rfl; exact rfl)
  (repeat (first | ((with_reducible apply o_valW); exact rfl; exact rfl; exact rfl; exact trivial) | with_reducible apply s_seq | with_reducible apply s_reg | with_reducible apply s_skip | with_reducible apply s_block | with_reducible apply s_exit | with_reducible apply s_ret | with_reducible apply o_nil | with_reducible apply ssq_norm | with_reducible apply ssq_exit | with_reducible apply ssq_ret | with_reducible apply sbq_hit | with_reducible apply sbq_norm | with_reducible apply sbq_ret | with_reducible apply slq_exit | with_reducible apply slq_ret | with_reducible apply jq_exit | with_reducible apply jq_ret | ((with_reducible apply s_condT); exact rfl) | ((with_reducible apply s_condF); exact rfl) | ((with_reducible apply o_guardT); exact rfl; exact rfl) | ((with_reducible apply o_guardF); exact rfl; exact rfl) | ((with_reducible apply sbq_miss); exact rfl)))
  ((try ((with_reducible apply o_guardT); exact rfl; exact rfl)); (with_reducible apply o_ldQ 2 hD3); exact rfl; exact rfl; exact rfl; exact rfl)
  (repeat (first | ((with_reducible apply o_valW); exact rfl; exact rfl; exact rfl; exact trivial) | with_reducible apply s_seq | with_reducible apply s_reg | with_reducible apply s_skip | with_reducible apply s_block | with_reducible apply s_exit | with_reducible apply s_ret | with_reducible apply o_nil | with_reducible apply ssq_norm | with_reducible apply ssq_exit | with_reducible apply ssq_ret | with_reducible apply sbq_hit | with_reducible apply sbq_norm | with_reducible apply sbq_ret | with_reducible apply slq_exit | with_reducible apply slq_ret | with_reducible apply jq_exit | with_reducible apply jq_ret | ((with_reducible apply s_condT); exact rfl) | ((with_reducible apply s_condF); exact rfl) | ((with_reducible apply o_guardT); exact rfl; exact rfl) | ((with_reducible apply o_guardF); exact rfl; exact rfl) | ((with_reducible apply sbq_miss); exact rfl)))
  apply o_lenT rfl rfl ho2
  (first | ((with_reducible apply o_valW); exact rfl; exact rfl; exact rfl; exact trivial) | with_reducible apply s_seq | with_reducible apply s_reg | with_reducible apply s_skip | with_reducible apply s_block | with_reducible apply s_exit | with_reducible apply s_ret | with_reducible apply o_nil | with_reducible apply ssq_norm | with_reducible apply ssq_exit | with_reducible apply ssq_ret | with_reducible apply sbq_hit | with_reducible apply sbq_norm | with_reducible apply sbq_ret | with_reducible apply slq_exit | with_reducible apply slq_ret | with_reducible apply jq_exit | with_reducible apply jq_ret | ((with_reducible apply s_condT); exact rfl) | ((with_reducible apply s_condF); exact rfl) | ((with_reducible apply o_guardT); exact rfl; exact rfl) | ((with_reducible apply o_guardF); exact rfl; exact rfl) | ((with_reducible apply sbq_miss); exact rfl))
  apply o_int rfl rfl trivial (w64 (by omega) (by omega))
  (first | ((with_reducible apply o_valW); exact rfl; exact rfl; exact rfl; exact trivial) | with_reducible apply s_seq | with_reducible apply s_reg | with_reducible apply s_skip | with_reducible apply s_block | with_reducible apply s_exit | with_reducible apply s_ret | with_reducible apply o_nil | with_reducible apply ssq_norm | with_reducible apply ssq_exit | with_reducible apply ssq_ret | with_reducible apply sbq_hit | with_reducible apply sbq_norm | with_reducible apply sbq_ret | with_reducible apply slq_exit | with_reducible apply slq_ret | with_reducible apply jq_exit | with_reducible apply jq_ret | ((with_reducible apply s_condT); exact rfl) | ((with_reducible apply s_condF); exact rfl) | ((with_reducible apply o_guardT); exact rfl; exact rfl) | ((with_reducible apply o_guardF); exact rfl; exact rfl) | ((with_reducible apply sbq_miss); exact rfl))
  apply o_int (m := (k : Int)) rfl rfl trivial (by simp; omega)
  (first | ((with_reducible apply o_valW); exact rfl; exact rfl; exact rfl; exact trivial) | with_reducible apply s_seq | with_reducible apply s_reg | with_reducible apply s_skip | with_reducible apply s_block | with_reducible apply s_exit | with_reducible apply s_ret | with_reducible apply o_nil | with_reducible apply ssq_norm | with_reducible apply ssq_exit | with_reducible apply ssq_ret | with_reducible apply sbq_hit | with_reducible apply sbq_norm | with_reducible apply sbq_ret | with_reducible apply slq_exit | with_reducible apply slq_ret | with_reducible apply jq_exit | with_reducible apply jq_ret | ((with_reducible apply s_condT); exact rfl) | ((with_reducible apply s_condF); exact rfl) | ((with_reducible apply o_guardT); exact rfl; exact rfl) | ((with_reducible apply o_guardF); exact rfl; exact rfl) | ((with_reducible apply sbq_miss); exact rfl))
  apply o_iaT rfl rfl rfl ho2 (by omega) (by omega)
  (first | ((with_reducible apply o_valW); exact rfl; exact rfl; exact rfl; exact trivial) | with_reducible apply s_seq | with_reducible apply s_reg | with_reducible apply s_skip | with_reducible apply s_block | with_reducible apply s_exit | with_reducible apply s_ret | with_reducible apply o_nil | with_reducible apply ssq_norm | with_reducible apply ssq_exit | with_reducible apply ssq_ret | with_reducible apply sbq_hit | with_reducible apply sbq_norm | with_reducible apply sbq_ret | with_reducible apply slq_exit | with_reducible apply slq_ret | with_reducible apply jq_exit | with_reducible apply jq_ret | ((with_reducible apply s_condT); exact rfl) | ((with_reducible apply s_condF); exact rfl) | ((with_reducible apply o_guardT); exact rfl; exact rfl) | ((with_reducible apply o_guardF); exact rfl; exact rfl) | ((with_reducible apply sbq_miss); exact rfl))
  apply o_load rfl rfl (by rw [Int.toNat_natCast, Nat.mul_one]; exact nums_get (by omega))
  (repeat (first | ((with_reducible apply o_valW); exact rfl; exact rfl; exact rfl; exact trivial) | with_reducible apply s_seq | with_reducible apply s_reg | with_reducible apply s_skip | with_reducible apply s_block | with_reducible apply s_exit | with_reducible apply s_ret | with_reducible apply o_nil | with_reducible apply ssq_norm | with_reducible apply ssq_exit | with_reducible apply ssq_ret | with_reducible apply sbq_hit | with_reducible apply sbq_norm | with_reducible apply sbq_ret | with_reducible apply slq_exit | with_reducible apply slq_ret | with_reducible apply jq_exit | with_reducible apply jq_ret | ((with_reducible apply s_condT); exact rfl) | ((with_reducible apply s_condF); exact rfl) | ((with_reducible apply o_guardT); exact rfl; exact rfl) | ((with_reducible apply o_guardF); exact rfl; exact rfl) | ((with_reducible apply sbq_miss); exact rfl)))
  ((try ((with_reducible apply o_guardT); exact rfl; exact rfl)); (with_reducible apply o_bool); exact rfl; exact rfl; exact trivial; intro b5 h5)
  have : decide (t2.out = t2.out.take k ++ [x]) = b5 := by
    rw [h5]
    apply decide_eq_decide.2
    constructor
    · intro he
      have : t2.out[k]? = (t2.out.take k ++ [x])[k]? := by rw [← he]
      rw [List.getElem?_append_right (by omega), hkl] at this
      simpa [List.getElem?_eq_getElem (show k < t2.out.length by omega)] using this
    · intro he
      have h6 := (List.take_append_getElem (l := t2.out) (i := k) (by omega)).symm
      rw [he, hkn, List.take_length] at h6
      exact h6
  rw [this]
  (repeat (first | ((with_reducible apply o_valW); exact rfl; exact rfl; exact rfl; exact trivial) | with_reducible apply s_seq | with_reducible apply s_reg | with_reducible apply s_skip | with_reducible apply s_block | with_reducible apply s_exit | with_reducible apply s_ret | with_reducible apply o_nil | with_reducible apply ssq_norm | with_reducible apply ssq_exit | with_reducible apply ssq_ret | with_reducible apply sbq_hit | with_reducible apply sbq_norm | with_reducible apply sbq_ret | with_reducible apply slq_exit | with_reducible apply slq_ret | with_reducible apply jq_exit | with_reducible apply jq_ret | ((with_reducible apply s_condT); exact rfl) | ((with_reducible apply s_condF); exact rfl) | ((with_reducible apply o_guardT); exact rfl; exact rfl) | ((with_reducible apply o_guardF); exact rfl; exact rfl) | ((with_reducible apply sbq_miss); exact rfl)))
  apply o_true rfl rfl trivial (by simp)
  (repeat (first | ((with_reducible apply o_valW); exact rfl; exact rfl; exact rfl; exact trivial) | with_reducible apply s_seq | with_reducible apply s_reg | with_reducible apply s_skip | with_reducible apply s_block | with_reducible apply s_exit | with_reducible apply s_ret | with_reducible apply o_nil | with_reducible apply ssq_norm | with_reducible apply ssq_exit | with_reducible apply ssq_ret | with_reducible apply sbq_hit | with_reducible apply sbq_norm | with_reducible apply sbq_ret | with_reducible apply slq_exit | with_reducible apply slq_ret | with_reducible apply jq_exit | with_reducible apply jq_ret | ((with_reducible apply s_condT); exact rfl) | ((with_reducible apply s_condF); exact rfl) | ((with_reducible apply o_guardT); exact rfl; exact rfl) | ((with_reducible apply o_guardF); exact rfl; exact rfl) | ((with_reducible apply sbq_miss); exact rfl)))
  (first | apply sret_ret | apply sret_norm); exact res_tmp (vs := [_]) rfl rfl

theorem FrontRun.law_run (ps : List AV) (h : TyVs Tryd.prog 4 Tryd.f4.params.toList ps) : ∃ n h' n' lg, callN Tryd.prog ann n 4 ps (fun _ => none) 0 = some (.bool true, h', n', lg) := by
  obtain ⟨l, _, rfl, hl, a, _, rfl, ha, b, _, rfl, hb, x, _, rfl, hx, rfl⟩ := h
  obtain ⟨o, t, rfl, ho, _⟩ := ty_tr hl
  obtain ⟨a, rfl, _⟩ := ty_int (P := Tryd.prog) (t := 3) (i := .i64) (by kernel_rfl) ha
  obtain ⟨b, rfl, _⟩ := ty_int (P := Tryd.prog) (t := 3) (i := .i64) (by kernel_rfl) hb
  obtain ⟨x, rfl, _⟩ := ty_int (P := Tryd.prog) (t := 21) (i := .i32) (by kernel_rfl) hx
  exact run_of_pure (c4 ho a b x)
end Go.Proofs
