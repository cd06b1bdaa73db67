/-
  DERIVED. GIVEN WITH THE SEED: THE CARDS: each row of YtmfdggolnfoniaaDoorRows.lean that lists a variable, with what it lists TIED to the program's text (the seventh form; the later family's looks); each row that meets fmt, with fmt's text TOLD by the authors' own Lean function (tested against real Go, not proved from fmt's source: count such statements apart). THE CARD IS WHAT COUNTS. Prove the row's statement (the work); the ties are given (YtmfdggolnfoniaaDoorTie.lean); close each card by the builder's one call (the guide's Derived/Test/ToyasCard.lean, 'card_holds'). Laid BY PROGRAM, IN A SANDBOX (cutbox-door.mjs). By AI agents, Wed Nov 11 2026. No macro, syntax, notation, axiom, sorry.
-/
import Derived.Test.YtmfdggolnfoniaaDoorRows
import GoSem.ClaimSeven
namespace Go.Proofs.YtmfdggolnfoniaaDoor
namespace Rows

/-- THE TIED CARD OF 'bruitlaw10.PidParses'. -/
def pidParsesCard : Claim7 := { stood := { row := pidParsesRow, standIns := [], harness := (true, "1f3f7d305a71e0946204c5430b233ee84044492f923cdeb78e5ca74f1b6688ae"), looks := true }, kinds := [], alts := [], laidByText := true, laidKinds := [.data, .data, .data, .sentinel, .sentinel], laidTests := true, laidLooks := .later }
def PidParsesCardSaid : Prop := Claim7.holds Tryd.pinned (.plain (OpenSpec.ofChange pidParsesSpec)) pidParsesCard

/-- THE TIED CARD OF 'bruitlaw10.PidSets'. -/
def pidSetsCard : Claim7 := { stood := { row := pidSetsRow, standIns := [], harness := (true, "1f3f7d305a71e0946204c5430b233ee84044492f923cdeb78e5ca74f1b6688ae"), looks := true }, kinds := [], alts := [], laidByText := true, laidKinds := [.data, .data, .data], laidTests := true, laidLooks := .later }
def PidSetsCardSaid : Prop := Claim7.holds Tryd.pinned (.plain (OpenSpec.ofChange pidSetsSpec)) pidSetsCard

/-- THE TIED CARD OF 'bruitlaw11.VidParses'. -/
def vidParsesCard : Claim7 := { stood := { row := vidParsesRow, standIns := [], harness := (true, "1f3f7d305a71e0946204c5430b233ee84044492f923cdeb78e5ca74f1b6688ae"), looks := true }, kinds := [], alts := [], laidByText := true, laidKinds := [.data, .data, .data, .sentinel, .sentinel], laidTests := true, laidLooks := .later }
def VidParsesCardSaid : Prop := Claim7.holds Tryd.pinned (.plain (OpenSpec.ofChange vidParsesSpec)) vidParsesCard

/-- THE TIED CARD OF 'bruitlaw11.VidPacks'. -/
def vidPacksCard : Claim7 := { stood := { row := vidPacksRow, standIns := [], harness := (true, "1f3f7d305a71e0946204c5430b233ee84044492f923cdeb78e5ca74f1b6688ae"), looks := true }, kinds := [], alts := [], laidByText := true, laidKinds := [.data, .data, .data, .sentinel, .sentinel], laidTests := true, laidLooks := .later }
def VidPacksCardSaid : Prop := Claim7.holds Tryd.pinned (.plain (OpenSpec.ofChange vidPacksSpec)) vidPacksCard

/-- THE TIED CARD OF 'bruitlaw11.VidTells'. -/
def vidTellsCard : Claim7 := { stood := { row := vidTellsRow, standIns := [], harness := (true, "1f3f7d305a71e0946204c5430b233ee84044492f923cdeb78e5ca74f1b6688ae"), looks := true }, kinds := [], alts := [], laidByText := true, laidKinds := [.data, .data, .data, .sentinel, .sentinel], laidTests := true, laidLooks := .later }
def VidTellsCardSaid : Prop := Claim7.holds Tryd.pinned (.plain (OpenSpec.ofChange vidTellsSpec)) vidTellsCard

/-- THE TIED CARD OF 'bruitlaw11.VidSets'. -/
def vidSetsCard : Claim7 := { stood := { row := vidSetsRow, standIns := [], harness := (true, "1f3f7d305a71e0946204c5430b233ee84044492f923cdeb78e5ca74f1b6688ae"), looks := true }, kinds := [], alts := [], laidByText := true, laidKinds := [.data, .data, .data, .sentinel, .sentinel], laidTests := true, laidLooks := .later }
def VidSetsCardSaid : Prop := Claim7.holds Tryd.pinned (.plain (OpenSpec.ofChange vidSetsSpec)) vidSetsCard

/-- THE SECOND FORM's CARD OF 'bruitlaw10.PidParses'. -/
def pidParsesUptoCard : Claim7 := { stood := { row := pidParsesUptoRow, standIns := [], harness := (true, "1f3f7d305a71e0946204c5430b233ee84044492f923cdeb78e5ca74f1b6688ae"), looks := true }, kinds := [], alts := [], laidByText := true, laidKinds := [.data, .data, .data, .sentinel, .sentinel], laidTests := true, laidLooks := .later }
def PidParsesUptoCardSaid : Prop := Claim7.holds Tryd.pinned (.plain (OpenSpec.upto pidParsesSpec)) pidParsesUptoCard

/-- THE SECOND FORM's CARD OF 'bruitlaw10.PidSets'. -/
def pidSetsUptoCard : Claim7 := { stood := { row := pidSetsUptoRow, standIns := [], harness := (true, "1f3f7d305a71e0946204c5430b233ee84044492f923cdeb78e5ca74f1b6688ae"), looks := true }, kinds := [], alts := [], laidByText := true, laidKinds := [.data, .data, .data], laidTests := true, laidLooks := .later }
def PidSetsUptoCardSaid : Prop := Claim7.holds Tryd.pinned (.plain (OpenSpec.upto pidSetsSpec)) pidSetsUptoCard

/-- THE SECOND FORM's CARD OF 'bruitlaw11.VidParses'. -/
def vidParsesUptoCard : Claim7 := { stood := { row := vidParsesUptoRow, standIns := [], harness := (true, "1f3f7d305a71e0946204c5430b233ee84044492f923cdeb78e5ca74f1b6688ae"), looks := true }, kinds := [], alts := [], laidByText := true, laidKinds := [.data, .data, .data, .sentinel, .sentinel], laidTests := true, laidLooks := .later }
def VidParsesUptoCardSaid : Prop := Claim7.holds Tryd.pinned (.plain (OpenSpec.upto vidParsesSpec)) vidParsesUptoCard

/-- THE SECOND FORM's CARD OF 'bruitlaw11.VidPacks'. -/
def vidPacksUptoCard : Claim7 := { stood := { row := vidPacksUptoRow, standIns := [], harness := (true, "1f3f7d305a71e0946204c5430b233ee84044492f923cdeb78e5ca74f1b6688ae"), looks := true }, kinds := [], alts := [], laidByText := true, laidKinds := [.data, .data, .data, .sentinel, .sentinel], laidTests := true, laidLooks := .later }
def VidPacksUptoCardSaid : Prop := Claim7.holds Tryd.pinned (.plain (OpenSpec.upto vidPacksSpec)) vidPacksUptoCard

/-- THE SECOND FORM's CARD OF 'bruitlaw11.VidTells'. -/
def vidTellsUptoCard : Claim7 := { stood := { row := vidTellsUptoRow, standIns := [], harness := (true, "1f3f7d305a71e0946204c5430b233ee84044492f923cdeb78e5ca74f1b6688ae"), looks := true }, kinds := [], alts := [], laidByText := true, laidKinds := [.data, .data, .data, .sentinel, .sentinel], laidTests := true, laidLooks := .later }
def VidTellsUptoCardSaid : Prop := Claim7.holds Tryd.pinned (.plain (OpenSpec.upto vidTellsSpec)) vidTellsUptoCard

/-- THE SECOND FORM's CARD OF 'bruitlaw11.VidSets'. -/
def vidSetsUptoCard : Claim7 := { stood := { row := vidSetsUptoRow, standIns := [], harness := (true, "1f3f7d305a71e0946204c5430b233ee84044492f923cdeb78e5ca74f1b6688ae"), looks := true }, kinds := [], alts := [], laidByText := true, laidKinds := [.data, .data, .data, .sentinel, .sentinel], laidTests := true, laidLooks := .later }
def VidSetsUptoCardSaid : Prop := Claim7.holds Tryd.pinned (.plain (OpenSpec.upto vidSetsSpec)) vidSetsUptoCard
end Rows
end Go.Proofs.YtmfdggolnfoniaaDoor
