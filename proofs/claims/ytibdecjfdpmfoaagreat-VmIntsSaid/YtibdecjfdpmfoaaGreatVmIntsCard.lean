import Derived.Test.YtibdecjfdpmfoaaGreatVmL6
import Derived.Test.YtibdecjfdpmfoaaGreatRows
import Derived.WalkKit
import Derived.ProofKit
import Derived.JoinedCond
namespace Go.Proofs.YtibdecjfdpmfoaaGreat.vmInts
open List
open Go.Proofs.Tryz
open Go Go.ChangeShapes Go.WideShapes Go.ChangeAt Go.RowKit Go.Abs Go.Proofs.SlimCode
theorem own:ownKnob prog.godebug=none:=by kernel_rfl
theorem glob{W:World}:GlobIn W ann:=by
 intro g cs hg;cases hg
set_option maxRecDepth 100000 in
theorem contract (H:Type) (enc:TypeId×Value→H) (W:World) (base:Nat) (args:Array Value) (ds gs:List (DataW H)) (before:List MemPlace)
  (hval:∀(j:Nat) t v,f6.params[j]?=some t→args[j]?=some v→Value.okWide prog W .any base t v)
  (hW:DataW.Whole enc prog f6.params.toList Rows.vmIntsSpec.vars false W args.toList ds gs before) :
  Calls prog 6 args W fun e W'=>∃v,e= .returned v∧Rows.vmIntsSpec.post enc prog f6 false true false false W args v W':=by
 have hW':=hW;obtain⟨p,q,hA,hV,rfl,hfz,hnd⟩:=hW;have run:=law_calls (A:=ann) (k:=4) (P:=prog) (f:=6) (by kernel_rfl) (by kernel_rfl) (by kernel_rfl) (fun j t v h1 h2=>hval j t v (by simpa using h1) (by simpa using h2)) hA glob Go.Proofs.law_run extok (by kernel_rfl);refine run.mono fun e W' ⟨he,hb⟩=>?_;subst he;exact⟨_,rfl,law_post (by kernel_rfl) (by kernel_rfl) rfl (tb:=4) (by kernel_rfl) (by kernel_rfl) (fun ds hd=>by
  match ds,hd with
  |[d0,d1,d2],_=>rfl) hW' hb⟩
set_option maxRecDepth 100000 in
theorem lifted (os:Os) (started:os.Started) (H:Type) (enc:TypeId×Value→H) :
  ReturnsInHanded {} Tryz.checked os 6 .any (Rows.vmIntsSpec.pre6 enc prog f6 Rows.vmIntsRow.domain false) (Rows.vmIntsSpec.post enc prog f6 false true false false):=by
 refine returnsInHanded_of_change (C:=Tryz.checked) own started (by kernel_rfl) func6
  (ChangeSpec.witness6 (enc:=enc) (C:=Tryz.checked) false ⟨#[],#[.int .i64 0,.int .i32 0,.int .i32 0],[]⟩ 8 (by kernel_rfl) (by kernel_rfl) (by kernel_rfl) (by kernel_rfl)) ?_
 intro W base args ds gs before hval hW _ _;exact contract H enc W base args ds gs before hval hW
theorem j_inp:(Rows.vmIntsRow.inPlace==Tryz.pinned.checked.prog.inPlace 6)=true:=by kernel_rfl
theorem j_unf:(Rows.vmIntsRow.unfollowed==Tryz.pinned.checked.prog.unfollowed 6)=true:=by kernel_rfl
theorem j_rec:(Rows.vmIntsRow.recurses==Tryz.pinned.checked.prog.recurses 6)=true:=by kernel_rfl
theorem j_nam:(Rows.vmIntsRow.named==Tryz.pinned.checked.prog.varsNamed 6)=true:=by kernel_rfl
theorem and_t{a b:Bool}(ha:a=true)(hb:b=true):(a&&b)=true:=by rw[ha,hb];rfl
set_option maxRecDepth 100000 in
theorem closed:joinedFacts Tryz.pinned.checked.prog 6 f6 Rows.vmIntsSpec Rows.vmIntsRow=true:=by
 unfold joinedFacts
 repeat' (with_reducible refine and_t ?_ ?_)
 all_goals first
  |(with_reducible exact j_inp)
  |(with_reducible exact j_unf)
  |(with_reducible exact j_rec)
  |(with_reducible exact j_nam)
  |kernel_rfl
theorem said:Rows.VmIntsSaid:=
 OpenClaim.holds_of_wide 6 f6 rfl rfl rfl rfl rfl rfl rfl ⟨rfl,rfl,rfl,rfl,rfl⟩ rfl rfl rfl rfl rfl (by kernel_rfl) func6 closed
  (of_decide_eq_true (by kernel_rfl)) (by unfold Func.isWrapper;first|(rw[if_pos (by decide +kernel)];kernel_rfl)|(rw[if_neg (by decide +kernel)];exact⟨rfl,rfl⟩))
  (fun os started H enc _=>lifted os started H enc)
end Go.Proofs.YtibdecjfdpmfoaaGreat.vmInts
