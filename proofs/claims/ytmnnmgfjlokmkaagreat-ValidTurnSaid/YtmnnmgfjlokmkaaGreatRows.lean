/-
  No cell of these rows narrows 'for every input' (looked for: loops, veiled, ifaces, maps, wideKeys, modest, calm, conditions, laid).
  DERIVED. THE GIVEN ROWS OF THIS SEAT. 11 by the template 'for every input the law returns true; each argument reads behind the call as it read before'; 0 by the template 'total and deterministic' (their statements: YtmnnmgfjlokmkaaGreatTotals.lean).
  GIVEN WITH THE SEED: the statements are not yours to turn. If you find one false, say at which input.
  Laid BY PROGRAM, IN A SANDBOX (cutbox-rows.mjs): the forced cells as the released guide's own fill.sh prints them over the translation 6dd012f2878889e8… (all of the seat's roots in one cut). By AI agents, Wed Nov 11 2026. No macro, syntax, notation, axiom, sorry.
-/
import Derived.Test.YtmnnmgfjlokmkaaGreatChecked
import GoSem.Claim
import GoSem.ClaimJoined
import GoSem.ClaimMapViews
import Derived.JoinedTies
import Derived.KernelRfl
namespace Go.Proofs.YtmnnmgfjlokmkaaGreat
/- THE CELL 'sum', in the pinned program and in every row, IS THE sha256 OF THE DUMP (.gsa) THAT YtmnnmgfjlokmkaaGreatProg.lean LOADS. Nothing in Lean hashes anything: it is a label: what it is worth is what the hold of that sum in a sandbox is worth. -/
noncomputable def Tryz.pinned : Pinned := { name := "ytmnnmgfjlokmkaagreat", sum := "6dd012f2878889e89aa7daf4100afe9bfd8a74c9a7490dd1f1c10462f5182779", checked := Tryz.checked }
namespace Rows
def none {H : Type} : Left H := { results := [], args := [] }

/-- 'daguerrelaw24.ImageAll': WHATEVER THE INPUT: true; the input reads as it did. -/
def imageAllSpec : ChangeSpec := { name := "imageAll", fn := fun _ => fun
  | [d1, d2] => { results := [.lit (.bool true)], args := [d1, d2] }
  | _ => none }
def imageAllRow : OpenClaim := { program := "ytmnnmgfjlokmkaagreat", sum := "6dd012f2878889e89aa7daf4100afe9bfd8a74c9a7490dd1f1c10462f5182779", func := "daguerre/daguerrelaw24.ImageAll", spec := "imageAll", unfollowed := true, recurses := true, apart := false }
def ImageAllSaid : Prop := imageAllRow.holds Tryz.pinned (OpenSpec.ofChange imageAllSpec)

/-- ITS FALSE NEIGHBOUR: 'it returns false'. Refute it at one input. -/
def imageAllWrong : ChangeSpec := { name := "imageAll", fn := fun _ => fun
  | [d1, d2] => { results := [.lit (.bool false)], args := [d1, d2] }
  | _ => none }
def ImageAllWrongFalsely : Prop := imageAllRow.holds Tryz.pinned (OpenSpec.ofChange imageAllWrong)

/-- 'daguerrelaw24.ImageBytes': WHATEVER THE INPUT: true; the input reads as it did. -/
def imageBytesSpec : ChangeSpec := { name := "imageBytes", fn := fun _ => fun
  | [d] => { results := [.lit (.bool true)], args := [d] }
  | _ => none }
def imageBytesRow : OpenClaim := { program := "ytmnnmgfjlokmkaagreat", sum := "6dd012f2878889e89aa7daf4100afe9bfd8a74c9a7490dd1f1c10462f5182779", func := "daguerre/daguerrelaw24.ImageBytes", spec := "imageBytes", unfollowed := true, recurses := true, apart := false }
def ImageBytesSaid : Prop := imageBytesRow.holds Tryz.pinned (OpenSpec.ofChange imageBytesSpec)

/-- ITS FALSE NEIGHBOUR: 'it returns false'. Refute it at one input. -/
def imageBytesWrong : ChangeSpec := { name := "imageBytes", fn := fun _ => fun
  | [d] => { results := [.lit (.bool false)], args := [d] }
  | _ => none }
def ImageBytesWrongFalsely : Prop := imageBytesRow.holds Tryz.pinned (OpenSpec.ofChange imageBytesWrong)

/-- 'daguerrelaw24.ImageAny': WHATEVER THE INPUT: true; the input reads as it did. -/
def imageAnySpec : ChangeSpec := { name := "imageAny", fn := fun _ => fun
  | [d1, d2, d3] => { results := [.lit (.bool true)], args := [d1, d2, d3] }
  | _ => none }
def imageAnyRow : OpenClaim := { program := "ytmnnmgfjlokmkaagreat", sum := "6dd012f2878889e89aa7daf4100afe9bfd8a74c9a7490dd1f1c10462f5182779", func := "daguerre/daguerrelaw24.ImageAny", spec := "imageAny", unfollowed := true, recurses := true, apart := false }
def ImageAnySaid : Prop := imageAnyRow.holds Tryz.pinned (OpenSpec.ofChange imageAnySpec)

/-- ITS FALSE NEIGHBOUR: 'it returns false'. Refute it at one input. -/
def imageAnyWrong : ChangeSpec := { name := "imageAny", fn := fun _ => fun
  | [d1, d2, d3] => { results := [.lit (.bool false)], args := [d1, d2, d3] }
  | _ => none }
def ImageAnyWrongFalsely : Prop := imageAnyRow.holds Tryz.pinned (OpenSpec.ofChange imageAnyWrong)

/-- 'daguerrelaw24.ImageBurst': WHATEVER THE INPUT: true; the input reads as it did. -/
def imageBurstSpec : ChangeSpec := { name := "imageBurst", fn := fun _ => fun
  | [d1, d2, d3] => { results := [.lit (.bool true)], args := [d1, d2, d3] }
  | _ => none }
def imageBurstRow : OpenClaim := { program := "ytmnnmgfjlokmkaagreat", sum := "6dd012f2878889e89aa7daf4100afe9bfd8a74c9a7490dd1f1c10462f5182779", func := "daguerre/daguerrelaw24.ImageBurst", spec := "imageBurst", unfollowed := true, recurses := true, apart := false }
def ImageBurstSaid : Prop := imageBurstRow.holds Tryz.pinned (OpenSpec.ofChange imageBurstSpec)

/-- ITS FALSE NEIGHBOUR: 'it returns false'. Refute it at one input. -/
def imageBurstWrong : ChangeSpec := { name := "imageBurst", fn := fun _ => fun
  | [d1, d2, d3] => { results := [.lit (.bool false)], args := [d1, d2, d3] }
  | _ => none }
def ImageBurstWrongFalsely : Prop := imageBurstRow.holds Tryz.pinned (OpenSpec.ofChange imageBurstWrong)

/-- 'daguerrelaw24.ImageTurn': WHATEVER THE INPUT: true; the input reads as it did. -/
def imageTurnSpec : ChangeSpec := { name := "imageTurn", fn := fun _ => fun
  | [d1, d2, d3, d4] => { results := [.lit (.bool true)], args := [d1, d2, d3, d4] }
  | _ => none }
def imageTurnRow : OpenClaim := { program := "ytmnnmgfjlokmkaagreat", sum := "6dd012f2878889e89aa7daf4100afe9bfd8a74c9a7490dd1f1c10462f5182779", func := "daguerre/daguerrelaw24.ImageTurn", spec := "imageTurn", unfollowed := true, recurses := true, apart := false }
def ImageTurnSaid : Prop := imageTurnRow.holds Tryz.pinned (OpenSpec.ofChange imageTurnSpec)

/-- ITS FALSE NEIGHBOUR: 'it returns false'. Refute it at one input. -/
def imageTurnWrong : ChangeSpec := { name := "imageTurn", fn := fun _ => fun
  | [d1, d2, d3, d4] => { results := [.lit (.bool false)], args := [d1, d2, d3, d4] }
  | _ => none }
def ImageTurnWrongFalsely : Prop := imageTurnRow.holds Tryz.pinned (OpenSpec.ofChange imageTurnWrong)

/-- 'daguerrelaw25.ValidAll': WHATEVER THE INPUT: true; the input reads as it did. -/
def validAllSpec : ChangeSpec := { name := "validAll", fn := fun _ => fun
  | [d] => { results := [.lit (.bool true)], args := [d] }
  | _ => none }
def validAllRow : OpenClaim := { program := "ytmnnmgfjlokmkaagreat", sum := "6dd012f2878889e89aa7daf4100afe9bfd8a74c9a7490dd1f1c10462f5182779", func := "daguerre/daguerrelaw25.ValidAll", spec := "validAll", unfollowed := true, recurses := true, apart := false }
def ValidAllSaid : Prop := validAllRow.holds Tryz.pinned (OpenSpec.ofChange validAllSpec)

/-- ITS FALSE NEIGHBOUR: 'it returns false'. Refute it at one input. -/
def validAllWrong : ChangeSpec := { name := "validAll", fn := fun _ => fun
  | [d] => { results := [.lit (.bool false)], args := [d] }
  | _ => none }
def ValidAllWrongFalsely : Prop := validAllRow.holds Tryz.pinned (OpenSpec.ofChange validAllWrong)

/-- 'daguerrelaw25.ValidTurn': WHATEVER THE INPUT: true; the input reads as it did. -/
def validTurnSpec : ChangeSpec := { name := "validTurn", fn := fun _ => fun
  | [d1, d2, d3] => { results := [.lit (.bool true)], args := [d1, d2, d3] }
  | _ => none }
def validTurnRow : OpenClaim := { program := "ytmnnmgfjlokmkaagreat", sum := "6dd012f2878889e89aa7daf4100afe9bfd8a74c9a7490dd1f1c10462f5182779", func := "daguerre/daguerrelaw25.ValidTurn", spec := "validTurn", unfollowed := true, recurses := true, apart := false }
def ValidTurnSaid : Prop := validTurnRow.holds Tryz.pinned (OpenSpec.ofChange validTurnSpec)

/-- ITS FALSE NEIGHBOUR: 'it returns false'. Refute it at one input. -/
def validTurnWrong : ChangeSpec := { name := "validTurn", fn := fun _ => fun
  | [d1, d2, d3] => { results := [.lit (.bool false)], args := [d1, d2, d3] }
  | _ => none }
def ValidTurnWrongFalsely : Prop := validTurnRow.holds Tryz.pinned (OpenSpec.ofChange validTurnWrong)

/-- 'daguerrelaw25.ValidRel': WHATEVER THE INPUT: true; the input reads as it did. -/
def validRelSpec : ChangeSpec := { name := "validRel", fn := fun _ => fun
  | [d1, d2] => { results := [.lit (.bool true)], args := [d1, d2] }
  | _ => none }
def validRelRow : OpenClaim := { program := "ytmnnmgfjlokmkaagreat", sum := "6dd012f2878889e89aa7daf4100afe9bfd8a74c9a7490dd1f1c10462f5182779", func := "daguerre/daguerrelaw25.ValidRel", spec := "validRel", unfollowed := true, recurses := true, apart := false }
def ValidRelSaid : Prop := validRelRow.holds Tryz.pinned (OpenSpec.ofChange validRelSpec)

/-- ITS FALSE NEIGHBOUR: 'it returns false'. Refute it at one input. -/
def validRelWrong : ChangeSpec := { name := "validRel", fn := fun _ => fun
  | [d1, d2] => { results := [.lit (.bool false)], args := [d1, d2] }
  | _ => none }
def ValidRelWrongFalsely : Prop := validRelRow.holds Tryz.pinned (OpenSpec.ofChange validRelWrong)

/-- 'daguerrelaw26.LoadAll': WHATEVER THE INPUT: true; the input reads as it did. -/
def loadAllSpec : ChangeSpec := { name := "loadAll", fn := fun _ => fun
  | [d1, d2, d3] => { results := [.lit (.bool true)], args := [d1, d2, d3] }
  | _ => none }
def loadAllRow : OpenClaim := { program := "ytmnnmgfjlokmkaagreat", sum := "6dd012f2878889e89aa7daf4100afe9bfd8a74c9a7490dd1f1c10462f5182779", func := "daguerre/daguerrelaw26.LoadAll", spec := "loadAll", unfollowed := true, recurses := true, apart := false }
def LoadAllSaid : Prop := loadAllRow.holds Tryz.pinned (OpenSpec.ofChange loadAllSpec)

/-- ITS FALSE NEIGHBOUR: 'it returns false'. Refute it at one input. -/
def loadAllWrong : ChangeSpec := { name := "loadAll", fn := fun _ => fun
  | [d1, d2, d3] => { results := [.lit (.bool false)], args := [d1, d2, d3] }
  | _ => none }
def LoadAllWrongFalsely : Prop := loadAllRow.holds Tryz.pinned (OpenSpec.ofChange loadAllWrong)

/-- 'daguerrelaw26.LoadAny': WHATEVER THE INPUT: true; the input reads as it did. -/
def loadAnySpec : ChangeSpec := { name := "loadAny", fn := fun _ => fun
  | [d1, d2, d3, d4] => { results := [.lit (.bool true)], args := [d1, d2, d3, d4] }
  | _ => none }
def loadAnyRow : OpenClaim := { program := "ytmnnmgfjlokmkaagreat", sum := "6dd012f2878889e89aa7daf4100afe9bfd8a74c9a7490dd1f1c10462f5182779", func := "daguerre/daguerrelaw26.LoadAny", spec := "loadAny", unfollowed := true, recurses := true, apart := false }
def LoadAnySaid : Prop := loadAnyRow.holds Tryz.pinned (OpenSpec.ofChange loadAnySpec)

/-- ITS FALSE NEIGHBOUR: 'it returns false'. Refute it at one input. -/
def loadAnyWrong : ChangeSpec := { name := "loadAny", fn := fun _ => fun
  | [d1, d2, d3, d4] => { results := [.lit (.bool false)], args := [d1, d2, d3, d4] }
  | _ => none }
def LoadAnyWrongFalsely : Prop := loadAnyRow.holds Tryz.pinned (OpenSpec.ofChange loadAnyWrong)

/-- 'daguerrelaw26.LoadMove': WHATEVER THE INPUT: true; the input reads as it did. -/
def loadMoveSpec : ChangeSpec := { name := "loadMove", fn := fun _ => fun
  | [d1, d2] => { results := [.lit (.bool true)], args := [d1, d2] }
  | _ => none }
def loadMoveRow : OpenClaim := { program := "ytmnnmgfjlokmkaagreat", sum := "6dd012f2878889e89aa7daf4100afe9bfd8a74c9a7490dd1f1c10462f5182779", func := "daguerre/daguerrelaw26.LoadMove", spec := "loadMove", unfollowed := true, recurses := true, apart := false }
def LoadMoveSaid : Prop := loadMoveRow.holds Tryz.pinned (OpenSpec.ofChange loadMoveSpec)

/-- ITS FALSE NEIGHBOUR: 'it returns false'. Refute it at one input. -/
def loadMoveWrong : ChangeSpec := { name := "loadMove", fn := fun _ => fun
  | [d1, d2] => { results := [.lit (.bool false)], args := [d1, d2] }
  | _ => none }
def LoadMoveWrongFalsely : Prop := loadMoveRow.holds Tryz.pinned (OpenSpec.ofChange loadMoveWrong)

/- THE SECOND FORM. 'bulk': how many values and letters a reading holds, each counted each time it is reached (what is shared counts as often as it is met; a slice's spare places count too). A statement '..UptoSaid' is the law's where the arguments, and the package variables that the reading takes, are together of bulk at most 1048576: NARROWER than '..Said'. Prove '..Said' where nothing that the law and all that it calls make is longer than what came in: it says more and counts as full. Else prove '..UptoSaid'. A law counts once. -/
mutual
def uptoBulk {H : Type} : DataW H → Nat
  | .lit (.string bytes) => bytes.length + 1
  | .lit _ => 1
  | .nil => 1
  | .ptr d => uptoBulk d + 1
  | .slice elems spare => uptoBulkAll elems + uptoBulkAll spare + 1
  | .agg parts => uptoBulkAll parts + 1
  | .iface _ d => uptoBulk d + 1
  | .map entries => uptoBulkEntries entries + 1
  | .held _ => 1
def uptoBulkAll {H : Type} : List (DataW H) → Nat
  | [] => 0
  | d :: r => uptoBulk d + uptoBulkAll r
def uptoBulkEntries {H : Type} : List (Lit × DataW H) → Nat
  | [] => 0
  | x :: r => uptoBulkEntry x + uptoBulkEntries r
def uptoBulkEntry {H : Type} : Lit × DataW H → Nat
  | (.string bytes, d) => bytes.length + uptoBulk d + 1
  | (_, d) => uptoBulk d + 1
 end
def uptoSmall : (H : Type) → List (DataW H) → Bool := fun _ ds => decide (uptoBulkAll ds ≤ 1048576)
def OpenSpec.upto (s : _root_.Go.ChangeSpec) : _root_.Go.OpenSpec := { _root_.Go.OpenSpec.ofChange s with cond := some uptoSmall }

/-- 'daguerrelaw24.ImageAll', WHERE WHAT IT READS IS OF BULK AT MOST 1048576: true; the input reads as it did. -/
def imageAllUptoRow : OpenClaim := { program := "ytmnnmgfjlokmkaagreat", sum := "6dd012f2878889e89aa7daf4100afe9bfd8a74c9a7490dd1f1c10462f5182779", func := "daguerre/daguerrelaw24.ImageAll", spec := "imageAll", unfollowed := true, recurses := true, apart := false, narrowed := true }
def ImageAllUptoSaid : Prop := imageAllUptoRow.holds Tryz.pinned (OpenSpec.upto imageAllSpec)

/-- 'daguerrelaw24.ImageBytes', WHERE WHAT IT READS IS OF BULK AT MOST 1048576: true; the input reads as it did. -/
def imageBytesUptoRow : OpenClaim := { program := "ytmnnmgfjlokmkaagreat", sum := "6dd012f2878889e89aa7daf4100afe9bfd8a74c9a7490dd1f1c10462f5182779", func := "daguerre/daguerrelaw24.ImageBytes", spec := "imageBytes", unfollowed := true, recurses := true, apart := false, narrowed := true }
def ImageBytesUptoSaid : Prop := imageBytesUptoRow.holds Tryz.pinned (OpenSpec.upto imageBytesSpec)

/-- 'daguerrelaw24.ImageAny', WHERE WHAT IT READS IS OF BULK AT MOST 1048576: true; the input reads as it did. -/
def imageAnyUptoRow : OpenClaim := { program := "ytmnnmgfjlokmkaagreat", sum := "6dd012f2878889e89aa7daf4100afe9bfd8a74c9a7490dd1f1c10462f5182779", func := "daguerre/daguerrelaw24.ImageAny", spec := "imageAny", unfollowed := true, recurses := true, apart := false, narrowed := true }
def ImageAnyUptoSaid : Prop := imageAnyUptoRow.holds Tryz.pinned (OpenSpec.upto imageAnySpec)

/-- 'daguerrelaw24.ImageBurst', WHERE WHAT IT READS IS OF BULK AT MOST 1048576: true; the input reads as it did. -/
def imageBurstUptoRow : OpenClaim := { program := "ytmnnmgfjlokmkaagreat", sum := "6dd012f2878889e89aa7daf4100afe9bfd8a74c9a7490dd1f1c10462f5182779", func := "daguerre/daguerrelaw24.ImageBurst", spec := "imageBurst", unfollowed := true, recurses := true, apart := false, narrowed := true }
def ImageBurstUptoSaid : Prop := imageBurstUptoRow.holds Tryz.pinned (OpenSpec.upto imageBurstSpec)

/-- 'daguerrelaw24.ImageTurn', WHERE WHAT IT READS IS OF BULK AT MOST 1048576: true; the input reads as it did. -/
def imageTurnUptoRow : OpenClaim := { program := "ytmnnmgfjlokmkaagreat", sum := "6dd012f2878889e89aa7daf4100afe9bfd8a74c9a7490dd1f1c10462f5182779", func := "daguerre/daguerrelaw24.ImageTurn", spec := "imageTurn", unfollowed := true, recurses := true, apart := false, narrowed := true }
def ImageTurnUptoSaid : Prop := imageTurnUptoRow.holds Tryz.pinned (OpenSpec.upto imageTurnSpec)

/-- 'daguerrelaw25.ValidAll', WHERE WHAT IT READS IS OF BULK AT MOST 1048576: true; the input reads as it did. -/
def validAllUptoRow : OpenClaim := { program := "ytmnnmgfjlokmkaagreat", sum := "6dd012f2878889e89aa7daf4100afe9bfd8a74c9a7490dd1f1c10462f5182779", func := "daguerre/daguerrelaw25.ValidAll", spec := "validAll", unfollowed := true, recurses := true, apart := false, narrowed := true }
def ValidAllUptoSaid : Prop := validAllUptoRow.holds Tryz.pinned (OpenSpec.upto validAllSpec)

/-- 'daguerrelaw25.ValidTurn', WHERE WHAT IT READS IS OF BULK AT MOST 1048576: true; the input reads as it did. -/
def validTurnUptoRow : OpenClaim := { program := "ytmnnmgfjlokmkaagreat", sum := "6dd012f2878889e89aa7daf4100afe9bfd8a74c9a7490dd1f1c10462f5182779", func := "daguerre/daguerrelaw25.ValidTurn", spec := "validTurn", unfollowed := true, recurses := true, apart := false, narrowed := true }
def ValidTurnUptoSaid : Prop := validTurnUptoRow.holds Tryz.pinned (OpenSpec.upto validTurnSpec)

/-- 'daguerrelaw25.ValidRel', WHERE WHAT IT READS IS OF BULK AT MOST 1048576: true; the input reads as it did. -/
def validRelUptoRow : OpenClaim := { program := "ytmnnmgfjlokmkaagreat", sum := "6dd012f2878889e89aa7daf4100afe9bfd8a74c9a7490dd1f1c10462f5182779", func := "daguerre/daguerrelaw25.ValidRel", spec := "validRel", unfollowed := true, recurses := true, apart := false, narrowed := true }
def ValidRelUptoSaid : Prop := validRelUptoRow.holds Tryz.pinned (OpenSpec.upto validRelSpec)

/-- 'daguerrelaw26.LoadAll', WHERE WHAT IT READS IS OF BULK AT MOST 1048576: true; the input reads as it did. -/
def loadAllUptoRow : OpenClaim := { program := "ytmnnmgfjlokmkaagreat", sum := "6dd012f2878889e89aa7daf4100afe9bfd8a74c9a7490dd1f1c10462f5182779", func := "daguerre/daguerrelaw26.LoadAll", spec := "loadAll", unfollowed := true, recurses := true, apart := false, narrowed := true }
def LoadAllUptoSaid : Prop := loadAllUptoRow.holds Tryz.pinned (OpenSpec.upto loadAllSpec)

/-- 'daguerrelaw26.LoadAny', WHERE WHAT IT READS IS OF BULK AT MOST 1048576: true; the input reads as it did. -/
def loadAnyUptoRow : OpenClaim := { program := "ytmnnmgfjlokmkaagreat", sum := "6dd012f2878889e89aa7daf4100afe9bfd8a74c9a7490dd1f1c10462f5182779", func := "daguerre/daguerrelaw26.LoadAny", spec := "loadAny", unfollowed := true, recurses := true, apart := false, narrowed := true }
def LoadAnyUptoSaid : Prop := loadAnyUptoRow.holds Tryz.pinned (OpenSpec.upto loadAnySpec)

/-- 'daguerrelaw26.LoadMove', WHERE WHAT IT READS IS OF BULK AT MOST 1048576: true; the input reads as it did. -/
def loadMoveUptoRow : OpenClaim := { program := "ytmnnmgfjlokmkaagreat", sum := "6dd012f2878889e89aa7daf4100afe9bfd8a74c9a7490dd1f1c10462f5182779", func := "daguerre/daguerrelaw26.LoadMove", spec := "loadMove", unfollowed := true, recurses := true, apart := false, narrowed := true }
def LoadMoveUptoSaid : Prop := loadMoveUptoRow.holds Tryz.pinned (OpenSpec.upto loadMoveSpec)

end Rows
end Go.Proofs.YtmnnmgfjlokmkaaGreat
