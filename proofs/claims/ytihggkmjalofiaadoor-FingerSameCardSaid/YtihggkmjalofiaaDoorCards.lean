/-
  DERIVED. GIVEN WITH THE SEED: THE CARDS: each row of YtihggkmjalofiaaDoorRows.lean that lists a variable, with what it lists TIED to the program's text (the seventh form; the later family's looks); each row that meets fmt, with fmt's text TOLD by the authors' own Lean function (tested against real Go, not proved from fmt's source: count such statements apart). THE CARD IS WHAT COUNTS. Prove the row's statement (the work); the ties are given (YtihggkmjalofiaaDoorTie.lean); close each card by the builder's one call (the guide's Derived/Test/ToyasCard.lean, 'card_holds'). Laid BY PROGRAM, IN A SANDBOX (cutbox-door.mjs). By AI agents, Wed Nov 11 2026. No macro, syntax, notation, axiom, sorry.
-/
import Derived.Test.YtihggkmjalofiaaDoorRows
import GoSem.ClaimSeven
namespace Go.Proofs.YtihggkmjalofiaaDoor
namespace Rows

/-- THE TIED CARD OF 'bruitlaw47.FingerSame'. -/
def fingerSameCard : Claim7 := { stood := { row := fingerSameRow, standIns := [], harness := (true, "1a54e6148ddbfa7b03a22928447a11cc1c8e1652fc9ded344c01beaf7397482f"), looks := false }, kinds := [], alts := [], laidByText := true, laidKinds := [.data, .data], laidTests := true, laidLooks := .later }
def FingerSameCardSaid : Prop := Claim7.holds Tryd.pinned (.plain (OpenSpec.ofChange fingerSameSpec)) fingerSameCard

/-- THE SECOND FORM's CARD OF 'bruitlaw47.FingerSame'. -/
def fingerSameUptoCard : Claim7 := { stood := { row := fingerSameUptoRow, standIns := [], harness := (true, "1a54e6148ddbfa7b03a22928447a11cc1c8e1652fc9ded344c01beaf7397482f"), looks := false }, kinds := [], alts := [], laidByText := true, laidKinds := [.data, .data], laidTests := true, laidLooks := .later }
def FingerSameUptoCardSaid : Prop := Claim7.holds Tryd.pinned (.plain (OpenSpec.upto fingerSameSpec)) fingerSameUptoCard
end Rows
end Go.Proofs.YtihggkmjalofiaaDoor
