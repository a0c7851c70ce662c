/-
  No cell of these rows narrows 'for every input' (looked for: loops, veiled, ifaces, maps, wideKeys, modest, calm, conditions, laid).
  DERIVED. THE GIVEN ROWS OF THIS SEAT. 4 by the template 'for every input the law returns true; each argument reads behind the call as it read before'; 0 by the template 'total and deterministic' (their statements: YtinkmbejinemaaaGreatTotals.lean).
  GIVEN WITH THE SEED: the statements are not yours to turn. If you find one false, say at which input.
  Laid BY PROGRAM, IN A SANDBOX (cutbox-rows.mjs): the forced cells as the released guide's own fill.sh prints them over the translation 293c14ec2e5559d7… (all of the seat's roots in one cut). By AI agents, Wed Nov 11 2026. No macro, syntax, notation, axiom, sorry.
-/
import Derived.Test.YtinkmbejinemaaaGreatChecked
import GoSem.Claim
import GoSem.ClaimJoined
import GoSem.ClaimMapViews
import Derived.JoinedTies
import Derived.KernelRfl
namespace Go.Proofs.YtinkmbejinemaaaGreat
/- THE CELL 'sum', in the pinned program and in every row, IS THE sha256 OF THE DUMP (.gsa) THAT YtinkmbejinemaaaGreatProg.lean LOADS. Nothing in Lean hashes anything: it is a label: what it is worth is what the hold of that sum in a sandbox is worth. -/
noncomputable def Tryz.pinned : Pinned := { name := "ytinkmbejinemaaagreat", sum := "293c14ec2e5559d7173085b6c05dda07119db4af222c344537444b253e857a8c", checked := Tryz.checked }
namespace Rows
def none {H : Type} : Left H := { results := [], args := [] }

/-- 'daguerrelaw19.ReachNone': WHATEVER THE INPUT: true; the input reads as it did. -/
def reachNoneSpec : ChangeSpec := { name := "reachNone", fn := fun _ => fun
  | [] => { results := [.lit (.bool true)], args := [] }
  | _ => none }
def reachNoneRow : OpenClaim := { program := "ytinkmbejinemaaagreat", sum := "293c14ec2e5559d7173085b6c05dda07119db4af222c344537444b253e857a8c", func := "daguerre/daguerrelaw19.ReachNone", spec := "reachNone", unfollowed := true, recurses := true, apart := false }
def ReachNoneSaid : Prop := reachNoneRow.holds Tryz.pinned (OpenSpec.ofChange reachNoneSpec)

/-- ITS FALSE NEIGHBOUR: 'it returns false'. Refute it at one input. -/
def reachNoneWrong : ChangeSpec := { name := "reachNone", fn := fun _ => fun
  | [] => { results := [.lit (.bool false)], args := [] }
  | _ => none }
def ReachNoneWrongFalsely : Prop := reachNoneRow.holds Tryz.pinned (OpenSpec.ofChange reachNoneWrong)

/-- 'daguerrelaw20.EffectRing': WHATEVER THE INPUT: true; the input reads as it did. -/
def effectRingSpec : ChangeSpec := { name := "effectRing", fn := fun _ => fun
  | [d1, d2] => { results := [.lit (.bool true)], args := [d1, d2] }
  | _ => none }
def effectRingRow : OpenClaim := { program := "ytinkmbejinemaaagreat", sum := "293c14ec2e5559d7173085b6c05dda07119db4af222c344537444b253e857a8c", func := "daguerre/daguerrelaw20.EffectRing", spec := "effectRing", inPlace := ["internal/bytealg.IndexByteString", "internal/bytealg.IndexString"], unfollowed := true, recurses := true, named := ["internal/bytealg.MaxLen"], apart := false }
def EffectRingSaid : Prop := effectRingRow.holds Tryz.pinned (OpenSpec.ofChange effectRingSpec)

/-- ITS FALSE NEIGHBOUR: 'it returns false'. Refute it at one input. -/
def effectRingWrong : ChangeSpec := { name := "effectRing", fn := fun _ => fun
  | [d1, d2] => { results := [.lit (.bool false)], args := [d1, d2] }
  | _ => none }
def EffectRingWrongFalsely : Prop := effectRingRow.holds Tryz.pinned (OpenSpec.ofChange effectRingWrong)

/-- 'daguerrelaw20.EffectWorld': WHATEVER THE INPUT: true; the input reads as it did. -/
def effectWorldSpec : ChangeSpec := { name := "effectWorld", fn := fun _ => fun
  | [d1, d2, d3] => { results := [.lit (.bool true)], args := [d1, d2, d3] }
  | _ => none }
def effectWorldRow : OpenClaim := { program := "ytinkmbejinemaaagreat", sum := "293c14ec2e5559d7173085b6c05dda07119db4af222c344537444b253e857a8c", func := "daguerre/daguerrelaw20.EffectWorld", spec := "effectWorld", inPlace := ["internal/bytealg.IndexByteString", "internal/bytealg.IndexString"], unfollowed := true, recurses := true, named := ["internal/bytealg.MaxLen"], apart := false }
def EffectWorldSaid : Prop := effectWorldRow.holds Tryz.pinned (OpenSpec.ofChange effectWorldSpec)

/-- ITS FALSE NEIGHBOUR: 'it returns false'. Refute it at one input. -/
def effectWorldWrong : ChangeSpec := { name := "effectWorld", fn := fun _ => fun
  | [d1, d2, d3] => { results := [.lit (.bool false)], args := [d1, d2, d3] }
  | _ => none }
def EffectWorldWrongFalsely : Prop := effectWorldRow.holds Tryz.pinned (OpenSpec.ofChange effectWorldWrong)

/-- 'daguerrelaw20.EffectAbove': WHATEVER THE INPUT: true; the input reads as it did. -/
def effectAboveSpec : ChangeSpec := { name := "effectAbove", fn := fun _ => fun
  | [d1, d2] => { results := [.lit (.bool true)], args := [d1, d2] }
  | _ => none }
def effectAboveRow : OpenClaim := { program := "ytinkmbejinemaaagreat", sum := "293c14ec2e5559d7173085b6c05dda07119db4af222c344537444b253e857a8c", func := "daguerre/daguerrelaw20.EffectAbove", spec := "effectAbove", inPlace := ["internal/bytealg.IndexByteString", "internal/bytealg.IndexString"], unfollowed := true, recurses := true, named := ["internal/bytealg.MaxLen"], apart := false }
def EffectAboveSaid : Prop := effectAboveRow.holds Tryz.pinned (OpenSpec.ofChange effectAboveSpec)

/-- ITS FALSE NEIGHBOUR: 'it returns false'. Refute it at one input. -/
def effectAboveWrong : ChangeSpec := { name := "effectAbove", fn := fun _ => fun
  | [d1, d2] => { results := [.lit (.bool false)], args := [d1, d2] }
  | _ => none }
def EffectAboveWrongFalsely : Prop := effectAboveRow.holds Tryz.pinned (OpenSpec.ofChange effectAboveWrong)

/- THE SECOND FORM. 'bulk': how many values and letters a reading holds, each counted each time it is reached (what is shared counts as often as it is met; a slice's spare places count too). A statement '..UptoSaid' is the law's where the arguments, and the package variables that the reading takes, are together of bulk at most 1048576: NARROWER than '..Said'. Prove '..Said' where nothing that the law and all that it calls make is longer than what came in: it says more and counts as full. Else prove '..UptoSaid'. A law counts once. -/
mutual
def uptoBulk {H : Type} : DataW H → Nat
  | .lit (.string bytes) => bytes.length + 1
  | .lit _ => 1
  | .nil => 1
  | .ptr d => uptoBulk d + 1
  | .slice elems spare => uptoBulkAll elems + uptoBulkAll spare + 1
  | .agg parts => uptoBulkAll parts + 1
  | .iface _ d => uptoBulk d + 1
  | .map entries => uptoBulkEntries entries + 1
  | .held _ => 1
def uptoBulkAll {H : Type} : List (DataW H) → Nat
  | [] => 0
  | d :: r => uptoBulk d + uptoBulkAll r
def uptoBulkEntries {H : Type} : List (Lit × DataW H) → Nat
  | [] => 0
  | x :: r => uptoBulkEntry x + uptoBulkEntries r
def uptoBulkEntry {H : Type} : Lit × DataW H → Nat
  | (.string bytes, d) => bytes.length + uptoBulk d + 1
  | (_, d) => uptoBulk d + 1
 end
def uptoSmall : (H : Type) → List (DataW H) → Bool := fun _ ds => decide (uptoBulkAll ds ≤ 1048576)
def OpenSpec.upto (s : _root_.Go.ChangeSpec) : _root_.Go.OpenSpec := { _root_.Go.OpenSpec.ofChange s with cond := some uptoSmall }

/-- 'daguerrelaw19.ReachNone', WHERE WHAT IT READS IS OF BULK AT MOST 1048576: true; the input reads as it did. -/
def reachNoneUptoRow : OpenClaim := { program := "ytinkmbejinemaaagreat", sum := "293c14ec2e5559d7173085b6c05dda07119db4af222c344537444b253e857a8c", func := "daguerre/daguerrelaw19.ReachNone", spec := "reachNone", unfollowed := true, recurses := true, apart := false, narrowed := true }
def ReachNoneUptoSaid : Prop := reachNoneUptoRow.holds Tryz.pinned (OpenSpec.upto reachNoneSpec)

/-- 'daguerrelaw20.EffectRing', WHERE WHAT IT READS IS OF BULK AT MOST 1048576: true; the input reads as it did. -/
def effectRingUptoRow : OpenClaim := { program := "ytinkmbejinemaaagreat", sum := "293c14ec2e5559d7173085b6c05dda07119db4af222c344537444b253e857a8c", func := "daguerre/daguerrelaw20.EffectRing", spec := "effectRing", inPlace := ["internal/bytealg.IndexByteString", "internal/bytealg.IndexString"], unfollowed := true, recurses := true, named := ["internal/bytealg.MaxLen"], apart := false, narrowed := true }
def EffectRingUptoSaid : Prop := effectRingUptoRow.holds Tryz.pinned (OpenSpec.upto effectRingSpec)

/-- 'daguerrelaw20.EffectWorld', WHERE WHAT IT READS IS OF BULK AT MOST 1048576: true; the input reads as it did. -/
def effectWorldUptoRow : OpenClaim := { program := "ytinkmbejinemaaagreat", sum := "293c14ec2e5559d7173085b6c05dda07119db4af222c344537444b253e857a8c", func := "daguerre/daguerrelaw20.EffectWorld", spec := "effectWorld", inPlace := ["internal/bytealg.IndexByteString", "internal/bytealg.IndexString"], unfollowed := true, recurses := true, named := ["internal/bytealg.MaxLen"], apart := false, narrowed := true }
def EffectWorldUptoSaid : Prop := effectWorldUptoRow.holds Tryz.pinned (OpenSpec.upto effectWorldSpec)

/-- 'daguerrelaw20.EffectAbove', WHERE WHAT IT READS IS OF BULK AT MOST 1048576: true; the input reads as it did. -/
def effectAboveUptoRow : OpenClaim := { program := "ytinkmbejinemaaagreat", sum := "293c14ec2e5559d7173085b6c05dda07119db4af222c344537444b253e857a8c", func := "daguerre/daguerrelaw20.EffectAbove", spec := "effectAbove", inPlace := ["internal/bytealg.IndexByteString", "internal/bytealg.IndexString"], unfollowed := true, recurses := true, named := ["internal/bytealg.MaxLen"], apart := false, narrowed := true }
def EffectAboveUptoSaid : Prop := effectAboveUptoRow.holds Tryz.pinned (OpenSpec.upto effectAboveSpec)

end Rows
end Go.Proofs.YtinkmbejinemaaaGreat
