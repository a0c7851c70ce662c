/-
  DERIVED. GIVEN WITH THE SEED: THE CARDS: each row of YtikddbjfljcbkaaDoorRows.lean that lists a variable, with what it lists TIED to the program's text (the seventh form; the later family's looks); each row that meets fmt, with fmt's text TOLD by the authors' own Lean function (tested against real Go, not proved from fmt's source: count such statements apart). THE CARD IS WHAT COUNTS. Prove the row's statement (the work); the ties are given (YtikddbjfljcbkaaDoorTie.lean); close each card by the builder's one call (the guide's Derived/Test/ToyasCard.lean, 'card_holds'). Laid BY PROGRAM, IN A SANDBOX (cutbox-door.mjs). By AI agents, Wed Nov 11 2026. No macro, syntax, notation, axiom, sorry.
-/
import Derived.Test.YtikddbjfljcbkaaDoorRows
import GoSem.ClaimSeven
namespace Go.Proofs.YtikddbjfljcbkaaDoor
namespace Rows

/-- THE TIED CARD OF 'daguerrelaw29.TraceAll'. -/
def traceAllCard : Claim7 := { stood := { row := traceAllRow, standIns := [], harness := (true, "50df05e714c7247ed7fdf00c1b5d30d7ad58f38b741a90a401b97c90e00e7bf8"), looks := false }, kinds := [], alts := [], laidByText := true, laidKinds := [.data, .data, .data], laidTests := true, laidLooks := .later }
def TraceAllCardSaid : Prop := Claim7.holds Tryd.pinned (.plain (OpenSpec.ofChange traceAllSpec)) traceAllCard

/-- THE TIED CARD OF 'daguerrelaw29.TraceFront'. -/
def traceFrontCard : Claim7 := { stood := { row := traceFrontRow, standIns := [], harness := (true, "50df05e714c7247ed7fdf00c1b5d30d7ad58f38b741a90a401b97c90e00e7bf8"), looks := false }, kinds := [], alts := [], laidByText := true, laidKinds := [.data, .data, .data], laidTests := true, laidLooks := .later }
def TraceFrontCardSaid : Prop := Claim7.holds Tryd.pinned (.plain (OpenSpec.ofChange traceFrontSpec)) traceFrontCard

/-- THE TIED CARD OF 'daguerrelaw29.TraceThree'. -/
def traceThreeCard : Claim7 := { stood := { row := traceThreeRow, standIns := [], harness := (true, "50df05e714c7247ed7fdf00c1b5d30d7ad58f38b741a90a401b97c90e00e7bf8"), looks := false }, kinds := [], alts := [], laidByText := true, laidKinds := [.data, .data, .data], laidTests := true, laidLooks := .later }
def TraceThreeCardSaid : Prop := Claim7.holds Tryd.pinned (.plain (OpenSpec.ofChange traceThreeSpec)) traceThreeCard

/-- THE SECOND FORM's CARD OF 'daguerrelaw29.TraceAll'. -/
def traceAllUptoCard : Claim7 := { stood := { row := traceAllUptoRow, standIns := [], harness := (true, "50df05e714c7247ed7fdf00c1b5d30d7ad58f38b741a90a401b97c90e00e7bf8"), looks := false }, kinds := [], alts := [], laidByText := true, laidKinds := [.data, .data, .data], laidTests := true, laidLooks := .later }
def TraceAllUptoCardSaid : Prop := Claim7.holds Tryd.pinned (.plain (OpenSpec.upto traceAllSpec)) traceAllUptoCard

/-- THE SECOND FORM's CARD OF 'daguerrelaw29.TraceFront'. -/
def traceFrontUptoCard : Claim7 := { stood := { row := traceFrontUptoRow, standIns := [], harness := (true, "50df05e714c7247ed7fdf00c1b5d30d7ad58f38b741a90a401b97c90e00e7bf8"), looks := false }, kinds := [], alts := [], laidByText := true, laidKinds := [.data, .data, .data], laidTests := true, laidLooks := .later }
def TraceFrontUptoCardSaid : Prop := Claim7.holds Tryd.pinned (.plain (OpenSpec.upto traceFrontSpec)) traceFrontUptoCard

/-- THE SECOND FORM's CARD OF 'daguerrelaw29.TraceThree'. -/
def traceThreeUptoCard : Claim7 := { stood := { row := traceThreeUptoRow, standIns := [], harness := (true, "50df05e714c7247ed7fdf00c1b5d30d7ad58f38b741a90a401b97c90e00e7bf8"), looks := false }, kinds := [], alts := [], laidByText := true, laidKinds := [.data, .data, .data], laidTests := true, laidLooks := .later }
def TraceThreeUptoCardSaid : Prop := Claim7.holds Tryd.pinned (.plain (OpenSpec.upto traceThreeSpec)) traceThreeUptoCard
end Rows
end Go.Proofs.YtikddbjfljcbkaaDoor
