/-
  No cell of these rows narrows 'for every input' (looked for: loops, veiled, ifaces, maps, wideKeys, modest, calm, conditions, laid).
  DERIVED. THE GIVEN ROWS OF THIS SEAT. 6 by the template 'for every input the law returns true; each argument reads behind the call as it read before'; 0 by the template 'total and deterministic' (their statements: YtibdecjfdpmfoaaGreatTotals.lean).
  GIVEN WITH THE SEED: the statements are not yours to turn. If you find one false, say at which input.
  Laid BY PROGRAM, IN A SANDBOX (cutbox-rows.mjs): the forced cells as the released guide's own fill.sh prints them over the translation 1ebbc74b7ce92eef… (all of the seat's roots in one cut). By AI agents, Wed Nov 11 2026. No macro, syntax, notation, axiom, sorry.
-/
import Derived.Test.YtibdecjfdpmfoaaGreatChecked
import GoSem.Claim
import GoSem.ClaimJoined
import GoSem.ClaimMapViews
import Derived.JoinedTies
import Derived.KernelRfl
namespace Go.Proofs.YtibdecjfdpmfoaaGreat
/- THE CELL 'sum', in the pinned program and in every row, IS THE sha256 OF THE DUMP (.gsa) THAT YtibdecjfdpmfoaaGreatProg.lean LOADS. Nothing in Lean hashes anything: it is a label: what it is worth is what the hold of that sum in a sandbox is worth. -/
noncomputable def Tryz.pinned : Pinned := { name := "ytibdecjfdpmfoaagreat", sum := "1ebbc74b7ce92eef05798bbd7331a604636f253a659b15e24f9d7718e49e43bd", checked := Tryz.checked }
namespace Rows
def none {H : Type} : Left H := { results := [], args := [] }

/-- 'daguerrelaw27.VmSafe': WHATEVER THE INPUT: true; the input reads as it did. -/
def vmSafeSpec : ChangeSpec := { name := "vmSafe", fn := fun _ => fun
  | [d1, d2, d3, d4, d5] => { results := [.lit (.bool true)], args := [d1, d2, d3, d4, d5] }
  | _ => none }
def vmSafeRow : OpenClaim := { program := "ytibdecjfdpmfoaagreat", sum := "1ebbc74b7ce92eef05798bbd7331a604636f253a659b15e24f9d7718e49e43bd", func := "daguerre/daguerrelaw27.VmSafe", spec := "vmSafe", unfollowed := true, recurses := true, apart := false }
def VmSafeSaid : Prop := vmSafeRow.holds Tryz.pinned (OpenSpec.ofChange vmSafeSpec)

/-- ITS FALSE NEIGHBOUR: 'it returns false'. Refute it at one input. -/
def vmSafeWrong : ChangeSpec := { name := "vmSafe", fn := fun _ => fun
  | [d1, d2, d3, d4, d5] => { results := [.lit (.bool false)], args := [d1, d2, d3, d4, d5] }
  | _ => none }
def VmSafeWrongFalsely : Prop := vmSafeRow.holds Tryz.pinned (OpenSpec.ofChange vmSafeWrong)

/-- 'daguerrelaw27.VmSteps': WHATEVER THE INPUT: true; the input reads as it did. -/
def vmStepsSpec : ChangeSpec := { name := "vmSteps", fn := fun _ => fun
  | [d1, d2, d3, d4] => { results := [.lit (.bool true)], args := [d1, d2, d3, d4] }
  | _ => none }
def vmStepsRow : OpenClaim := { program := "ytibdecjfdpmfoaagreat", sum := "1ebbc74b7ce92eef05798bbd7331a604636f253a659b15e24f9d7718e49e43bd", func := "daguerre/daguerrelaw27.VmSteps", spec := "vmSteps", unfollowed := true, recurses := true, apart := false }
def VmStepsSaid : Prop := vmStepsRow.holds Tryz.pinned (OpenSpec.ofChange vmStepsSpec)

/-- ITS FALSE NEIGHBOUR: 'it returns false'. Refute it at one input. -/
def vmStepsWrong : ChangeSpec := { name := "vmSteps", fn := fun _ => fun
  | [d1, d2, d3, d4] => { results := [.lit (.bool false)], args := [d1, d2, d3, d4] }
  | _ => none }
def VmStepsWrongFalsely : Prop := vmStepsRow.holds Tryz.pinned (OpenSpec.ofChange vmStepsWrong)

/-- 'daguerrelaw27.VmBad': WHATEVER THE INPUT: true; the input reads as it did. -/
def vmBadSpec : ChangeSpec := { name := "vmBad", fn := fun _ => fun
  | [d1, d2, d3] => { results := [.lit (.bool true)], args := [d1, d2, d3] }
  | _ => none }
def vmBadRow : OpenClaim := { program := "ytibdecjfdpmfoaagreat", sum := "1ebbc74b7ce92eef05798bbd7331a604636f253a659b15e24f9d7718e49e43bd", func := "daguerre/daguerrelaw27.VmBad", spec := "vmBad", unfollowed := true, recurses := true, apart := false }
def VmBadSaid : Prop := vmBadRow.holds Tryz.pinned (OpenSpec.ofChange vmBadSpec)

/-- ITS FALSE NEIGHBOUR: 'it returns false'. Refute it at one input. -/
def vmBadWrong : ChangeSpec := { name := "vmBad", fn := fun _ => fun
  | [d1, d2, d3] => { results := [.lit (.bool false)], args := [d1, d2, d3] }
  | _ => none }
def VmBadWrongFalsely : Prop := vmBadRow.holds Tryz.pinned (OpenSpec.ofChange vmBadWrong)

/-- 'daguerrelaw27.VmInts': WHATEVER THE INPUT: true; the input reads as it did. -/
def vmIntsSpec : ChangeSpec := { name := "vmInts", fn := fun _ => fun
  | [d1, d2, d3] => { results := [.lit (.bool true)], args := [d1, d2, d3] }
  | _ => none }
def vmIntsRow : OpenClaim := { program := "ytibdecjfdpmfoaagreat", sum := "1ebbc74b7ce92eef05798bbd7331a604636f253a659b15e24f9d7718e49e43bd", func := "daguerre/daguerrelaw27.VmInts", spec := "vmInts", unfollowed := true, recurses := true, apart := false }
def VmIntsSaid : Prop := vmIntsRow.holds Tryz.pinned (OpenSpec.ofChange vmIntsSpec)

/-- ITS FALSE NEIGHBOUR: 'it returns false'. Refute it at one input. -/
def vmIntsWrong : ChangeSpec := { name := "vmInts", fn := fun _ => fun
  | [d1, d2, d3] => { results := [.lit (.bool false)], args := [d1, d2, d3] }
  | _ => none }
def VmIntsWrongFalsely : Prop := vmIntsRow.holds Tryz.pinned (OpenSpec.ofChange vmIntsWrong)

/-- 'daguerrelaw27.VmParts': WHATEVER THE INPUT: true; the input reads as it did. -/
def vmPartsSpec : ChangeSpec := { name := "vmParts", fn := fun _ => fun
  | [d1, d2, d3, d4] => { results := [.lit (.bool true)], args := [d1, d2, d3, d4] }
  | _ => none }
def vmPartsRow : OpenClaim := { program := "ytibdecjfdpmfoaagreat", sum := "1ebbc74b7ce92eef05798bbd7331a604636f253a659b15e24f9d7718e49e43bd", func := "daguerre/daguerrelaw27.VmParts", spec := "vmParts", unfollowed := true, recurses := true, apart := false }
def VmPartsSaid : Prop := vmPartsRow.holds Tryz.pinned (OpenSpec.ofChange vmPartsSpec)

/-- ITS FALSE NEIGHBOUR: 'it returns false'. Refute it at one input. -/
def vmPartsWrong : ChangeSpec := { name := "vmParts", fn := fun _ => fun
  | [d1, d2, d3, d4] => { results := [.lit (.bool false)], args := [d1, d2, d3, d4] }
  | _ => none }
def VmPartsWrongFalsely : Prop := vmPartsRow.holds Tryz.pinned (OpenSpec.ofChange vmPartsWrong)

/-- 'daguerrelaw27.VmHeap': WHATEVER THE INPUT: true; the input reads as it did. -/
def vmHeapSpec : ChangeSpec := { name := "vmHeap", fn := fun _ => fun
  | [d1, d2] => { results := [.lit (.bool true)], args := [d1, d2] }
  | _ => none }
def vmHeapRow : OpenClaim := { program := "ytibdecjfdpmfoaagreat", sum := "1ebbc74b7ce92eef05798bbd7331a604636f253a659b15e24f9d7718e49e43bd", func := "daguerre/daguerrelaw27.VmHeap", spec := "vmHeap", unfollowed := true, recurses := true, apart := false }
def VmHeapSaid : Prop := vmHeapRow.holds Tryz.pinned (OpenSpec.ofChange vmHeapSpec)

/-- ITS FALSE NEIGHBOUR: 'it returns false'. Refute it at one input. -/
def vmHeapWrong : ChangeSpec := { name := "vmHeap", fn := fun _ => fun
  | [d1, d2] => { results := [.lit (.bool false)], args := [d1, d2] }
  | _ => none }
def VmHeapWrongFalsely : Prop := vmHeapRow.holds Tryz.pinned (OpenSpec.ofChange vmHeapWrong)

/- THE SECOND FORM. 'bulk': how many values and letters a reading holds, each counted each time it is reached (what is shared counts as often as it is met; a slice's spare places count too). A statement '..UptoSaid' is the law's where the arguments, and the package variables that the reading takes, are together of bulk at most 1048576: NARROWER than '..Said'. Prove '..Said' where nothing that the law and all that it calls make is longer than what came in: it says more and counts as full. Else prove '..UptoSaid'. A law counts once. -/
mutual
def uptoBulk {H : Type} : DataW H → Nat
  | .lit (.string bytes) => bytes.length + 1
  | .lit _ => 1
  | .nil => 1
  | .ptr d => uptoBulk d + 1
  | .slice elems spare => uptoBulkAll elems + uptoBulkAll spare + 1
  | .agg parts => uptoBulkAll parts + 1
  | .iface _ d => uptoBulk d + 1
  | .map entries => uptoBulkEntries entries + 1
  | .held _ => 1
def uptoBulkAll {H : Type} : List (DataW H) → Nat
  | [] => 0
  | d :: r => uptoBulk d + uptoBulkAll r
def uptoBulkEntries {H : Type} : List (Lit × DataW H) → Nat
  | [] => 0
  | x :: r => uptoBulkEntry x + uptoBulkEntries r
def uptoBulkEntry {H : Type} : Lit × DataW H → Nat
  | (.string bytes, d) => bytes.length + uptoBulk d + 1
  | (_, d) => uptoBulk d + 1
 end
def uptoSmall : (H : Type) → List (DataW H) → Bool := fun _ ds => decide (uptoBulkAll ds ≤ 1048576)
def OpenSpec.upto (s : _root_.Go.ChangeSpec) : _root_.Go.OpenSpec := { _root_.Go.OpenSpec.ofChange s with cond := some uptoSmall }

/-- 'daguerrelaw27.VmSafe', WHERE WHAT IT READS IS OF BULK AT MOST 1048576: true; the input reads as it did. -/
def vmSafeUptoRow : OpenClaim := { program := "ytibdecjfdpmfoaagreat", sum := "1ebbc74b7ce92eef05798bbd7331a604636f253a659b15e24f9d7718e49e43bd", func := "daguerre/daguerrelaw27.VmSafe", spec := "vmSafe", unfollowed := true, recurses := true, apart := false, narrowed := true }
def VmSafeUptoSaid : Prop := vmSafeUptoRow.holds Tryz.pinned (OpenSpec.upto vmSafeSpec)

/-- 'daguerrelaw27.VmSteps', WHERE WHAT IT READS IS OF BULK AT MOST 1048576: true; the input reads as it did. -/
def vmStepsUptoRow : OpenClaim := { program := "ytibdecjfdpmfoaagreat", sum := "1ebbc74b7ce92eef05798bbd7331a604636f253a659b15e24f9d7718e49e43bd", func := "daguerre/daguerrelaw27.VmSteps", spec := "vmSteps", unfollowed := true, recurses := true, apart := false, narrowed := true }
def VmStepsUptoSaid : Prop := vmStepsUptoRow.holds Tryz.pinned (OpenSpec.upto vmStepsSpec)

/-- 'daguerrelaw27.VmBad', WHERE WHAT IT READS IS OF BULK AT MOST 1048576: true; the input reads as it did. -/
def vmBadUptoRow : OpenClaim := { program := "ytibdecjfdpmfoaagreat", sum := "1ebbc74b7ce92eef05798bbd7331a604636f253a659b15e24f9d7718e49e43bd", func := "daguerre/daguerrelaw27.VmBad", spec := "vmBad", unfollowed := true, recurses := true, apart := false, narrowed := true }
def VmBadUptoSaid : Prop := vmBadUptoRow.holds Tryz.pinned (OpenSpec.upto vmBadSpec)

/-- 'daguerrelaw27.VmInts', WHERE WHAT IT READS IS OF BULK AT MOST 1048576: true; the input reads as it did. -/
def vmIntsUptoRow : OpenClaim := { program := "ytibdecjfdpmfoaagreat", sum := "1ebbc74b7ce92eef05798bbd7331a604636f253a659b15e24f9d7718e49e43bd", func := "daguerre/daguerrelaw27.VmInts", spec := "vmInts", unfollowed := true, recurses := true, apart := false, narrowed := true }
def VmIntsUptoSaid : Prop := vmIntsUptoRow.holds Tryz.pinned (OpenSpec.upto vmIntsSpec)

/-- 'daguerrelaw27.VmParts', WHERE WHAT IT READS IS OF BULK AT MOST 1048576: true; the input reads as it did. -/
def vmPartsUptoRow : OpenClaim := { program := "ytibdecjfdpmfoaagreat", sum := "1ebbc74b7ce92eef05798bbd7331a604636f253a659b15e24f9d7718e49e43bd", func := "daguerre/daguerrelaw27.VmParts", spec := "vmParts", unfollowed := true, recurses := true, apart := false, narrowed := true }
def VmPartsUptoSaid : Prop := vmPartsUptoRow.holds Tryz.pinned (OpenSpec.upto vmPartsSpec)

/-- 'daguerrelaw27.VmHeap', WHERE WHAT IT READS IS OF BULK AT MOST 1048576: true; the input reads as it did. -/
def vmHeapUptoRow : OpenClaim := { program := "ytibdecjfdpmfoaagreat", sum := "1ebbc74b7ce92eef05798bbd7331a604636f253a659b15e24f9d7718e49e43bd", func := "daguerre/daguerrelaw27.VmHeap", spec := "vmHeap", unfollowed := true, recurses := true, apart := false, narrowed := true }
def VmHeapUptoSaid : Prop := vmHeapUptoRow.holds Tryz.pinned (OpenSpec.upto vmHeapSpec)

end Rows
end Go.Proofs.YtibdecjfdpmfoaaGreat
