/- TraceAll: whatever its arguments are, it answers true. No condition. -/
import Derived.Test.YtikddbjfljcbkaaDoorCards
import Derived.Test.YtikddbjfljcbkaaDoorTie
import Derived.WalkKit
import Derived.ProofKit
import Derived.OpenShut
import Derived.Deep.DeepHandedRow
import Derived.Lib.LaidTab
import Derived.Test.YtikddbjfljcbkaaDoorAbsLaw
import Derived.Test.YtikddbjfljcbkaaDoorTrAll
namespace Go.Proofs.YtikddbjfljcbkaaDoor.traceAll
open Go Go.ChangeShapes Go.WideShapes Go.ChangeAt Go.RowKit Go.Abs Go.Proofs.SlimCode

theorem own : ownKnob Tryd.prog.godebug = none := by kernel_rfl

/- what the row's list gives -/
theorem laid_tail {P : Program} {x : String × DataW Unit} {l : List (String × DataW Unit)} {w : World} (h : laidMet P (x :: l) w) : laidMet P l w := by
  obtain ⟨ps, ⟨g, t, cs, fuel, p, q, _, _, _, _, h1, rfl⟩, h2, h3⟩ := h
  exact ⟨q, h1, (List.nodup_append.1 h2).2.1, fun b off hb => h3 b off (List.mem_append_right _ hb)⟩
theorem table {W : World} (h : laidMetH Tryd.prog Rows.traceAllRow.laid W) : Lib.TabIs Tryd.prog W "internal/strconv.uint64pow10" .u64 pow10L :=
  Lib.tabIs_of_head (rest := []) (g := 0) (by kernel_rfl) (t := 47) (by kernel_rfl) (e := 40) (n := 20) (by kernel_rfl) (by kernel_rfl) (by kernel_rfl) (by kernel_rfl) (laid_tail (laid_tail h))
theorem glob {W : World} (h : laidMetH Tryd.prog Rows.traceAllRow.laid W) : GlobIn W ann := by
  intro g cs hg i a ha
  simp only [ann] at hg
  split at hg
  · rename_i hlt
    simp only [Option.some.injEq] at hg
    subst hg
    match g, hlt with
    | 0, _ =>
      have hi : i < pow10L.length := by
        have := (List.getElem?_eq_some_iff.1 ha).1
        simpa [gl] using this
      have c := (table h).cell (g := 0) (by kernel_rfl) i hi
      refine ⟨_, ?_, c⟩
      have ha' : (pow10L.map (AV.int .u64))[i]? = some a := ha
      rw [List.getElem?_map, List.getElem?_eq_getElem hi] at ha'
      simp only [Option.map_some, Option.some.injEq] at ha'
      subst ha'
      rw [List.getD_eq_getElem?_getD, List.getElem?_eq_getElem hi]
      rfl
    | 1, _ => simp [gl] at ha
    | 2, _ => simp [gl] at ha
  · cases hg

set_option maxRecDepth 100000 in
theorem contract (H : Type) (enc : TypeId × Value → H) (W : World) (base : Nat) (args : Array Value) (ds gs : List (DataW H)) (before : List MemPlace)
    (hval : ∀ (j : Nat) t v, Tryd.f3.params[j]? = some t → args[j]? = some v → Value.okWide Tryd.prog W .any base t v)
    (hW : DataW.Whole enc Tryd.prog Tryd.f3.params.toList Rows.traceAllSpec.vars false W args.toList ds gs before) (hL : laidMetH Tryd.prog Rows.traceAllRow.laid W) :
    Calls Tryd.prog 3 args W fun e W' => ∃ v, e = .returned v ∧ Rows.traceAllSpec.post enc Tryd.prog Tryd.f3 false true false false W args v W' := by
  have hW' := hW
  obtain ⟨p, q, hA, hV, rfl, hfz, hnd⟩ := hW
  have run := law_calls (A := ann) (k := 4) (P := Tryd.prog) (f := 3) (by kernel_rfl) (by kernel_rfl) (by kernel_rfl) (fun j t v h1 h2 => hval j t v (by simpa using h1) (by simpa using h2)) hA (glob hL) AllRun.law_run
  refine run.mono fun e W' ⟨he, hb⟩ => ?_
  subst he
  exact ⟨_, rfl, law_post (by kernel_rfl) (by kernel_rfl) rfl (tb := 4) (by kernel_rfl) (by kernel_rfl) (fun ds hd => by
    match ds, hd with
    | [d0, d1], _ => rfl) hW' hb⟩

noncomputable def laidWorld (os : Os) : World :=
  { World.holding Tryd.prog os ⟨#[], #[], []⟩ with heap := ((((World.holding Tryd.prog os ⟨#[], #[], []⟩).heap.modify 0 fun
      | .cells _ t frozen => .cells (pow10L.map (Value.int .u64)).toArray t frozen
      | o => o).modify 1 fun
      | .cells _ t frozen => .cells (b32L.map (Value.int .u8)).toArray t frozen
      | o => o).modify 2 fun
      | .cells _ t frozen => .cells (b64L.map (Value.int .u8)).toArray t frozen
      | o => o) }
theorem laid_met (os : Os) : laidMet Tryd.prog Rows.traceAllRow.laid ((laidWorld os).forCall (fun _ _ => 0) ⟨#[], #[.agg #[.slice none 0 0, .int .i64 0, .int .i32 0, .string ⟨#[]⟩], .agg #[.slice none 0 0, .int .i64 0, .int .i32 0, .string ⟨#[]⟩]], []⟩).memory :=
  laidMet_of_run' 8 (by kernel_rfl) (by kernel_rfl)
theorem reads (os : Os) {H : Type} (enc : TypeId × Value → H) : ∃ places, DataW.whole enc Tryd.prog ((laidWorld os).forCall (fun _ _ => 0) ⟨#[], #[.agg #[.slice none 0 0, .int .i64 0, .int .i32 0, .string ⟨#[]⟩], .agg #[.slice none 0 0, .int .i64 0, .int .i32 0, .string ⟨#[]⟩]], []⟩).memory Tryd.f3.params.toList Rows.traceAllSpec.vars false (#[.agg #[.slice none 0 0, .int .i64 0, .int .i32 0, .string ⟨#[]⟩], .agg #[.slice none 0 0, .int .i64 0, .int .i32 0, .string ⟨#[]⟩]] : Array Value).toList 8 = some ([.agg [.nil, .lit (.int .i64 0), .lit (.int .i32 0), .lit (.string [])], .agg [.nil, .lit (.int .i64 0), .lit (.int .i32 0), .lit (.string [])]], [], places) :=
  ⟨[], by kernel_rfl⟩

set_option maxRecDepth 100000 in
theorem lifted (os : Os) (started : os.Started) (H : Type) (enc : TypeId × Value → H) (F : Stop.Interp) :
    ReturnsInHanded {} Tryd.checked os 3 .any ((OpenSpec.ofChange Rows.traceAllSpec).preRow enc Tryd.prog Tryd.f3 Rows.traceAllRow.domain false Rows.traceAllRow.laid) (((OpenSpec.ofChange Rows.traceAllSpec).at F).post enc Tryd.prog Tryd.f3 false true false false) := by
  obtain ⟨places, hx⟩ := reads os enc
  refine returnsInHanded_of_row (C := Tryd.checked) (s := OpenSpec.ofChange Rows.traceAllSpec) own started (by kernel_rfl) Tryd.func3
    (witness_row_at (enc := enc) (C := Tryd.checked) false (laidWorld os) #[.agg #[.slice none 0 0, .int .i64 0, .int .i32 0, .string ⟨#[]⟩], .agg #[.slice none 0 0, .int .i64 0, .int .i32 0, .string ⟨#[]⟩]] rfl (by kernel_rfl) (by kernel_rfl) (by kernel_rfl)
      (OpenSpec.preRow_of_cond 8 hx (by kernel_rfl) (fun k hk => by cases hk) (by kernel_rfl) (laid_met os))) ?_
  intro W base args ds gs before hval hW _ _ _ hL _ _
  exact contract H enc W base args ds gs before hval hW hL

theorem said : Rows.TraceAllSaid :=
  OpenClaim.holds_of_cond 3 Tryd.f3 rfl rfl rfl rfl rfl rfl rfl ⟨rfl, rfl, rfl, rfl, rfl⟩ rfl rfl rfl rfl rfl (by kernel_rfl) Tryd.func3 (by kernel_rfl)
    (of_decide_eq_true (by kernel_rfl)) (by unfold Func.isWrapper; first | (rw [if_pos (by decide +kernel)]; kernel_rfl) | (rw [if_neg (by decide +kernel)]; exact ⟨rfl, rfl⟩))
    (fun os started H enc _ F => by rw [OpenClaim.pre_eq_preRow]; exact lifted os started H enc F)

theorem plain (f : FuncId) (fn : Func) (hf : Tryd.pinned.checked.prog.funcNamed "daguerre/daguerrelaw29.TraceAll" = some f) (hfn : Tryd.pinned.checked.prog.funcs[f]? = some fn) :
    false = Tryd.pinned.checked.prog.looks [] ∧ ∀ (j : Nat) t, fn.params[j]? = some t → Tryd.pinned.checked.prog.wantsStandIn t = false := by
  obtain rfl : f = 3 := Option.some.inj ((show Tryd.prog.funcNamed "daguerre/daguerrelaw29.TraceAll" = some 3 by kernel_rfl).symm.trans hf) |>.symm
  obtain rfl : fn = Tryd.f3 := (Option.some.inj (Tryd.func3.symm.trans hfn)).symm
  refine ⟨by kernel_rfl, fun j t ht => ?_⟩
  have all : (Tryd.f3.params.toList.all fun t => !(Tryd.prog.wantsStandIn t)) = true := by kernel_rfl
  rw [List.all_eq_true] at all
  have := all t (by rw [Array.mem_toList_iff]; exact Array.mem_of_getElem? ht)
  exact (show Tryd.prog.wantsStandIn t = false by simpa using this)

theorem card : Rows.TraceAllCardSaid :=
  Claim7.holds_tied_plain_at .later [] _ _ _ _ said (fun _ h => by cases h) (by kernel_rfl) (fun _ h => by cases h) traceAll_row_tie rfl ⟨rfl, rfl⟩ (by kernel_rfl) rfl plain (by kernel_rfl)
end Go.Proofs.YtikddbjfljcbkaaDoor.traceAll
