/-
  DERIVED. GIVEN WITH THE SEED: THE CARDS: each row of YtdafiipedlglpaaDoorRows.lean that lists a variable, with what it lists TIED to the program's text (the seventh form; the later family's looks); each row that meets fmt, with fmt's text TOLD by the authors' own Lean function (tested against real Go, not proved from fmt's source: count such statements apart). THE CARD IS WHAT COUNTS. Prove the row's statement (the work); the ties are given (YtdafiipedlglpaaDoorTie.lean); close each card by the builder's one call (the guide's Derived/Test/ToyasCard.lean, 'card_holds'). Laid BY PROGRAM, IN A SANDBOX (cutbox-door.mjs). By AI agents, Wed Nov 11 2026. No macro, syntax, notation, axiom, sorry.
-/
import Derived.Test.YtdafiipedlglpaaDoorRows
import GoSem.ClaimSeven
namespace Go.Proofs.YtdafiipedlglpaaDoor
namespace Rows

/-- THE TIED CARD OF 'bruitlaw30.LogNil'. -/
def logNilCard : Claim7 := { stood := { row := logNilRow, standIns := [], harness := (true, "b26a5a46b380fa529dfc4b0717888ecc5e4430f877ce039e73117158802fccb0"), looks := false }, kinds := [], alts := [], laidByText := true, laidKinds := [.data], laidTests := true, laidLooks := .later }
def LogNilCardSaid : Prop := Claim7.holds Tryd.pinned (.plain (OpenSpec.ofChange logNilSpec)) logNilCard

/-- THE SECOND FORM's CARD OF 'bruitlaw30.LogNil'. -/
def logNilUptoCard : Claim7 := { stood := { row := logNilUptoRow, standIns := [], harness := (true, "b26a5a46b380fa529dfc4b0717888ecc5e4430f877ce039e73117158802fccb0"), looks := false }, kinds := [], alts := [], laidByText := true, laidKinds := [.data], laidTests := true, laidLooks := .later }
def LogNilUptoCardSaid : Prop := Claim7.holds Tryd.pinned (.plain (OpenSpec.upto logNilSpec)) logNilUptoCard
end Rows
end Go.Proofs.YtdafiipedlglpaaDoor
