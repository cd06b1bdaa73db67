/-
  DERIVED. GIVEN WITH THE SEED: THE CARDS: each row of YtceapefjdiphpaaDoorRows.lean that lists a variable, with what it lists TIED to the program's text (the seventh form; the later family's looks); each row that meets fmt, with fmt's text TOLD by the authors' own Lean function (tested against real Go, not proved from fmt's source: count such statements apart). THE CARD IS WHAT COUNTS. Prove the row's statement (the work); the ties are given (YtceapefjdiphpaaDoorTie.lean); close each card by the builder's one call (the guide's Derived/Test/ToyasCard.lean, 'card_holds'). Laid BY PROGRAM, IN A SANDBOX (cutbox-door.mjs). By AI agents, Wed Nov 11 2026. No macro, syntax, notation, axiom, sorry.
-/
import Derived.Test.YtceapefjdiphpaaDoorRows
import GoSem.ClaimSeven
namespace Go.Proofs.YtceapefjdiphpaaDoor
namespace Rows

/-- THE TIED CARD OF 'bruitlaw10.PidPacks'. -/
def pidPacksCard : Claim7 := { stood := { row := pidPacksRow, standIns := [], harness := (true, "0b5c06f380664384ef52725f14c0225065acc1cc04f8af03013c68421fa77f55"), looks := false }, kinds := [], alts := [], laidByText := true, laidKinds := [.data, .data, .data], laidTests := true, laidLooks := .later }
def PidPacksCardSaid : Prop := Claim7.holds Tryd.pinned (.plain (OpenSpec.ofChange pidPacksSpec)) pidPacksCard

/-- THE TIED CARD OF 'bruitlaw10.PidTells'. -/
def pidTellsCard : Claim7 := { stood := { row := pidTellsRow, standIns := [], harness := (true, "0b5c06f380664384ef52725f14c0225065acc1cc04f8af03013c68421fa77f55"), looks := false }, kinds := [], alts := [], laidByText := true, laidKinds := [.data, .data, .data], laidTests := true, laidLooks := .later }
def PidTellsCardSaid : Prop := Claim7.holds Tryd.pinned (.plain (OpenSpec.ofChange pidTellsSpec)) pidTellsCard

/-- THE TIED CARD OF 'bruitlaw10.PidOrders'. -/
def pidOrdersCard : Claim7 := { stood := { row := pidOrdersRow, standIns := [], harness := (true, "0b5c06f380664384ef52725f14c0225065acc1cc04f8af03013c68421fa77f55"), looks := false }, kinds := [], alts := [], laidByText := true, laidKinds := [.data, .data, .data], laidTests := true, laidLooks := .later }
def PidOrdersCardSaid : Prop := Claim7.holds Tryd.pinned (.plain (OpenSpec.ofChange pidOrdersSpec)) pidOrdersCard

/-- THE SECOND FORM's CARD OF 'bruitlaw10.PidPacks'. -/
def pidPacksUptoCard : Claim7 := { stood := { row := pidPacksUptoRow, standIns := [], harness := (true, "0b5c06f380664384ef52725f14c0225065acc1cc04f8af03013c68421fa77f55"), looks := false }, kinds := [], alts := [], laidByText := true, laidKinds := [.data, .data, .data], laidTests := true, laidLooks := .later }
def PidPacksUptoCardSaid : Prop := Claim7.holds Tryd.pinned (.plain (OpenSpec.upto pidPacksSpec)) pidPacksUptoCard

/-- THE SECOND FORM's CARD OF 'bruitlaw10.PidTells'. -/
def pidTellsUptoCard : Claim7 := { stood := { row := pidTellsUptoRow, standIns := [], harness := (true, "0b5c06f380664384ef52725f14c0225065acc1cc04f8af03013c68421fa77f55"), looks := false }, kinds := [], alts := [], laidByText := true, laidKinds := [.data, .data, .data], laidTests := true, laidLooks := .later }
def PidTellsUptoCardSaid : Prop := Claim7.holds Tryd.pinned (.plain (OpenSpec.upto pidTellsSpec)) pidTellsUptoCard

/-- THE SECOND FORM's CARD OF 'bruitlaw10.PidOrders'. -/
def pidOrdersUptoCard : Claim7 := { stood := { row := pidOrdersUptoRow, standIns := [], harness := (true, "0b5c06f380664384ef52725f14c0225065acc1cc04f8af03013c68421fa77f55"), looks := false }, kinds := [], alts := [], laidByText := true, laidKinds := [.data, .data, .data], laidTests := true, laidLooks := .later }
def PidOrdersUptoCardSaid : Prop := Claim7.holds Tryd.pinned (.plain (OpenSpec.upto pidOrdersSpec)) pidOrdersUptoCard
end Rows
end Go.Proofs.YtceapefjdiphpaaDoor
