/-
  No cell of these rows narrows 'for every input' (looked for: loops, veiled, ifaces, maps, wideKeys, modest, calm, conditions, laid).
  DERIVED. THE GIVEN ROWS OF THIS SEAT. 4 by the template 'for every input the law returns true; each argument reads behind the call as it read before'; 0 by the template 'total and deterministic' (their statements: YtpieojmepdehcaaGreatTotals.lean).
  GIVEN WITH THE SEED: the statements are not yours to turn. If you find one false, say at which input.
  Laid BY PROGRAM, IN A SANDBOX (cutbox-rows.mjs): the forced cells as the released guide's own fill.sh prints them over the translation 2c16ccaa4e43c363… (all of the seat's roots in one cut). By AI agents, Wed Nov 11 2026. No macro, syntax, notation, axiom, sorry.
-/
import Derived.Test.YtpieojmepdehcaaGreatChecked
import GoSem.Claim
import GoSem.ClaimJoined
import GoSem.ClaimMapViews
import Derived.JoinedTies
import Derived.KernelRfl
namespace Go.Proofs.YtpieojmepdehcaaGreat
/- THE CELL 'sum', in the pinned program and in every row, IS THE sha256 OF THE DUMP (.gsa) THAT YtpieojmepdehcaaGreatProg.lean LOADS. Nothing in Lean hashes anything: it is a label: what it is worth is what the hold of that sum in a sandbox is worth. -/
noncomputable def Tryz.pinned : Pinned := { name := "ytpieojmepdehcaagreat", sum := "2c16ccaa4e43c363d87ca4ba3a4563dc6cc572ce12c9863d4db098ec3619ff9a", checked := Tryz.checked }
namespace Rows
def none {H : Type} : Left H := { results := [], args := [] }

/-- 'daguerrelaw19.ReachMade': WHATEVER THE INPUT: true; the input reads as it did. -/
def reachMadeSpec : ChangeSpec := { name := "reachMade", fn := fun _ => fun
  | [d1, d2] => { results := [.lit (.bool true)], args := [d1, d2] }
  | _ => none }
def reachMadeRow : OpenClaim := { program := "ytpieojmepdehcaagreat", sum := "2c16ccaa4e43c363d87ca4ba3a4563dc6cc572ce12c9863d4db098ec3619ff9a", func := "daguerre/daguerrelaw19.ReachMade", spec := "reachMade", unfollowed := true, recurses := true, apart := false }
def ReachMadeSaid : Prop := reachMadeRow.holds Tryz.pinned (OpenSpec.ofChange reachMadeSpec)

/-- ITS FALSE NEIGHBOUR: 'it returns false'. Refute it at one input. -/
def reachMadeWrong : ChangeSpec := { name := "reachMade", fn := fun _ => fun
  | [d1, d2] => { results := [.lit (.bool false)], args := [d1, d2] }
  | _ => none }
def ReachMadeWrongFalsely : Prop := reachMadeRow.holds Tryz.pinned (OpenSpec.ofChange reachMadeWrong)

/-- 'daguerrelaw17.LazyDeep': WHATEVER THE INPUT: true; the input reads as it did. -/
def lazyDeepSpec : ChangeSpec := { name := "lazyDeep", fn := fun _ => fun
  | [d] => { results := [.lit (.bool true)], args := [d] }
  | _ => none }
def lazyDeepRow : OpenClaim := { program := "ytpieojmepdehcaagreat", sum := "2c16ccaa4e43c363d87ca4ba3a4563dc6cc572ce12c9863d4db098ec3619ff9a", func := "daguerre/daguerrelaw17.LazyDeep", spec := "lazyDeep", inPlace := ["maps.clone"], unfollowed := true, recurses := true, apart := false }
def LazyDeepSaid : Prop := lazyDeepRow.holds Tryz.pinned (OpenSpec.ofChange lazyDeepSpec)

/-- ITS FALSE NEIGHBOUR: 'it returns false'. Refute it at one input. -/
def lazyDeepWrong : ChangeSpec := { name := "lazyDeep", fn := fun _ => fun
  | [d] => { results := [.lit (.bool false)], args := [d] }
  | _ => none }
def LazyDeepWrongFalsely : Prop := lazyDeepRow.holds Tryz.pinned (OpenSpec.ofChange lazyDeepWrong)

/-- 'daguerrelaw17.LazyNone': WHATEVER THE INPUT: true; the input reads as it did. -/
def lazyNoneSpec : ChangeSpec := { name := "lazyNone", fn := fun _ => fun
  | [] => { results := [.lit (.bool true)], args := [] }
  | _ => none }
def lazyNoneRow : OpenClaim := { program := "ytpieojmepdehcaagreat", sum := "2c16ccaa4e43c363d87ca4ba3a4563dc6cc572ce12c9863d4db098ec3619ff9a", func := "daguerre/daguerrelaw17.LazyNone", spec := "lazyNone", inPlace := ["maps.clone"], unfollowed := true, recurses := true, apart := false }
def LazyNoneSaid : Prop := lazyNoneRow.holds Tryz.pinned (OpenSpec.ofChange lazyNoneSpec)

/-- ITS FALSE NEIGHBOUR: 'it returns false'. Refute it at one input. -/
def lazyNoneWrong : ChangeSpec := { name := "lazyNone", fn := fun _ => fun
  | [] => { results := [.lit (.bool false)], args := [] }
  | _ => none }
def LazyNoneWrongFalsely : Prop := lazyNoneRow.holds Tryz.pinned (OpenSpec.ofChange lazyNoneWrong)

/-- 'daguerrelaw21.BootThrows': WHATEVER THE INPUT: true; the input reads as it did. -/
def bootThrowsSpec : ChangeSpec := { name := "bootThrows", fn := fun _ => fun
  | [d] => { results := [.lit (.bool true)], args := [d] }
  | _ => none }
def bootThrowsRow : OpenClaim := { program := "ytpieojmepdehcaagreat", sum := "2c16ccaa4e43c363d87ca4ba3a4563dc6cc572ce12c9863d4db098ec3619ff9a", func := "daguerre/daguerrelaw21.BootThrows", spec := "bootThrows", inPlace := ["internal/bytealg.IndexByteString", "internal/bytealg.IndexString", "maps.clone"], unfollowed := true, recurses := true, named := ["internal/bytealg.MaxLen"], apart := false }
def BootThrowsSaid : Prop := bootThrowsRow.holds Tryz.pinned (OpenSpec.ofChange bootThrowsSpec)

/-- ITS FALSE NEIGHBOUR: 'it returns false'. Refute it at one input. -/
def bootThrowsWrong : ChangeSpec := { name := "bootThrows", fn := fun _ => fun
  | [d] => { results := [.lit (.bool false)], args := [d] }
  | _ => none }
def BootThrowsWrongFalsely : Prop := bootThrowsRow.holds Tryz.pinned (OpenSpec.ofChange bootThrowsWrong)

/- THE SECOND FORM. 'bulk': how many values and letters a reading holds, each counted each time it is reached (what is shared counts as often as it is met; a slice's spare places count too). A statement '..UptoSaid' is the law's where the arguments, and the package variables that the reading takes, are together of bulk at most 1048576: NARROWER than '..Said'. Prove '..Said' where nothing that the law and all that it calls make is longer than what came in: it says more and counts as full. Else prove '..UptoSaid'. A law counts once. -/
mutual
def uptoBulk {H : Type} : DataW H → Nat
  | .lit (.string bytes) => bytes.length + 1
  | .lit _ => 1
  | .nil => 1
  | .ptr d => uptoBulk d + 1
  | .slice elems spare => uptoBulkAll elems + uptoBulkAll spare + 1
  | .agg parts => uptoBulkAll parts + 1
  | .iface _ d => uptoBulk d + 1
  | .map entries => uptoBulkEntries entries + 1
  | .held _ => 1
def uptoBulkAll {H : Type} : List (DataW H) → Nat
  | [] => 0
  | d :: r => uptoBulk d + uptoBulkAll r
def uptoBulkEntries {H : Type} : List (Lit × DataW H) → Nat
  | [] => 0
  | x :: r => uptoBulkEntry x + uptoBulkEntries r
def uptoBulkEntry {H : Type} : Lit × DataW H → Nat
  | (.string bytes, d) => bytes.length + uptoBulk d + 1
  | (_, d) => uptoBulk d + 1
 end
def uptoSmall : (H : Type) → List (DataW H) → Bool := fun _ ds => decide (uptoBulkAll ds ≤ 1048576)
def OpenSpec.upto (s : _root_.Go.ChangeSpec) : _root_.Go.OpenSpec := { _root_.Go.OpenSpec.ofChange s with cond := some uptoSmall }

/-- 'daguerrelaw19.ReachMade', WHERE WHAT IT READS IS OF BULK AT MOST 1048576: true; the input reads as it did. -/
def reachMadeUptoRow : OpenClaim := { program := "ytpieojmepdehcaagreat", sum := "2c16ccaa4e43c363d87ca4ba3a4563dc6cc572ce12c9863d4db098ec3619ff9a", func := "daguerre/daguerrelaw19.ReachMade", spec := "reachMade", unfollowed := true, recurses := true, apart := false, narrowed := true }
def ReachMadeUptoSaid : Prop := reachMadeUptoRow.holds Tryz.pinned (OpenSpec.upto reachMadeSpec)

/-- 'daguerrelaw17.LazyDeep', WHERE WHAT IT READS IS OF BULK AT MOST 1048576: true; the input reads as it did. -/
def lazyDeepUptoRow : OpenClaim := { program := "ytpieojmepdehcaagreat", sum := "2c16ccaa4e43c363d87ca4ba3a4563dc6cc572ce12c9863d4db098ec3619ff9a", func := "daguerre/daguerrelaw17.LazyDeep", spec := "lazyDeep", inPlace := ["maps.clone"], unfollowed := true, recurses := true, apart := false, narrowed := true }
def LazyDeepUptoSaid : Prop := lazyDeepUptoRow.holds Tryz.pinned (OpenSpec.upto lazyDeepSpec)

/-- 'daguerrelaw17.LazyNone', WHERE WHAT IT READS IS OF BULK AT MOST 1048576: true; the input reads as it did. -/
def lazyNoneUptoRow : OpenClaim := { program := "ytpieojmepdehcaagreat", sum := "2c16ccaa4e43c363d87ca4ba3a4563dc6cc572ce12c9863d4db098ec3619ff9a", func := "daguerre/daguerrelaw17.LazyNone", spec := "lazyNone", inPlace := ["maps.clone"], unfollowed := true, recurses := true, apart := false, narrowed := true }
def LazyNoneUptoSaid : Prop := lazyNoneUptoRow.holds Tryz.pinned (OpenSpec.upto lazyNoneSpec)

/-- 'daguerrelaw21.BootThrows', WHERE WHAT IT READS IS OF BULK AT MOST 1048576: true; the input reads as it did. -/
def bootThrowsUptoRow : OpenClaim := { program := "ytpieojmepdehcaagreat", sum := "2c16ccaa4e43c363d87ca4ba3a4563dc6cc572ce12c9863d4db098ec3619ff9a", func := "daguerre/daguerrelaw21.BootThrows", spec := "bootThrows", inPlace := ["internal/bytealg.IndexByteString", "internal/bytealg.IndexString", "maps.clone"], unfollowed := true, recurses := true, named := ["internal/bytealg.MaxLen"], apart := false, narrowed := true }
def BootThrowsUptoSaid : Prop := bootThrowsUptoRow.holds Tryz.pinned (OpenSpec.upto bootThrowsSpec)

end Rows
end Go.Proofs.YtpieojmepdehcaaGreat
