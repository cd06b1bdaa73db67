/-
  DERIVED. GIVEN WITH THE SEED: THE CARDS: each row of YtdafiipedlglpaaGreatDoorRows.lean that lists a variable, with what it lists TIED to the program's text (the seventh form; the later family's looks); each row that meets fmt, with fmt's text TOLD by the authors' own Lean function (tested against real Go, not proved from fmt's source: count such statements apart). THE CARD IS WHAT COUNTS. Prove the row's statement (the work); the ties are given (YtdafiipedlglpaaGreatDoorTie.lean); close each card by the builder's one call (the guide's Derived/Test/ToyasCard.lean, 'card_holds'). Laid BY PROGRAM, IN A SANDBOX (cutbox-door.mjs). By AI agents, Wed Nov 11 2026. No macro, syntax, notation, axiom, sorry.
-/
import Derived.Test.YtdafiipedlglpaaGreatDoorRows
import GoSem.ClaimSeven
namespace Go.Proofs.YtdafiipedlglpaaGreatDoor
namespace Rows

/-- THE TIED CARD OF 'bruitlaw34.MsgGood'. -/
def msgGoodCard : Claim7 := { stood := { row := msgGoodRow, standIns := [], harness := (true, "330ec8c40367bc157e086e405dce7ad406f5624e56553dc0749f9d23023ca6d7"), looks := false }, kinds := [], alts := [], laidByText := true, laidKinds := [.data], laidTests := true, laidLooks := .later }
def MsgGoodCardSaid : Prop := Claim7.holds Tryz.pinned (.plain (OpenSpec.ofChange msgGoodSpec)) msgGoodCard

/-- THE TIED CARD OF 'bruitlaw34.MsgBytes'. -/
def msgBytesCard : Claim7 := { stood := { row := msgBytesRow, standIns := [], harness := (true, "330ec8c40367bc157e086e405dce7ad406f5624e56553dc0749f9d23023ca6d7"), looks := false }, kinds := [], alts := [], laidByText := true, laidKinds := [.data], laidTests := true, laidLooks := .later }
def MsgBytesCardSaid : Prop := Claim7.holds Tryz.pinned (.plain (OpenSpec.ofChange msgBytesSpec)) msgBytesCard

/-- THE TIED CARD OF 'bruitlaw34.MsgBack'. -/
def msgBackCard : Claim7 := { stood := { row := msgBackRow, standIns := [], harness := (true, "330ec8c40367bc157e086e405dce7ad406f5624e56553dc0749f9d23023ca6d7"), looks := false }, kinds := [], alts := [], laidByText := true, laidKinds := [.data], laidTests := true, laidLooks := .later }
def MsgBackCardSaid : Prop := Claim7.holds Tryz.pinned (.plain (OpenSpec.ofChange msgBackSpec)) msgBackCard

/-- THE TIED CARD OF 'bruitlaw34.MsgSpoilt'. -/
def msgSpoiltCard : Claim7 := { stood := { row := msgSpoiltRow, standIns := [], harness := (true, "330ec8c40367bc157e086e405dce7ad406f5624e56553dc0749f9d23023ca6d7"), looks := false }, kinds := [], alts := [], laidByText := true, laidKinds := [.data], laidTests := true, laidLooks := .later }
def MsgSpoiltCardSaid : Prop := Claim7.holds Tryz.pinned (.plain (OpenSpec.ofChange msgSpoiltSpec)) msgSpoiltCard

/-- THE TIED CARD OF 'bruitlaw30.LogPlays'. -/
def logPlaysCard : Claim7 := { stood := { row := logPlaysRow, standIns := [], harness := (true, "330ec8c40367bc157e086e405dce7ad406f5624e56553dc0749f9d23023ca6d7"), looks := false }, kinds := [], alts := [], laidByText := true, laidKinds := [.data], laidTests := true, laidLooks := .later }
def LogPlaysCardSaid : Prop := Claim7.holds Tryz.pinned (.plain (OpenSpec.ofChange logPlaysSpec)) logPlaysCard

/-- THE TIED CARD OF 'bruitlaw30.LogReads'. -/
def logReadsCard : Claim7 := { stood := { row := logReadsRow, standIns := [], harness := (true, "330ec8c40367bc157e086e405dce7ad406f5624e56553dc0749f9d23023ca6d7"), looks := false }, kinds := [], alts := [], laidByText := true, laidKinds := [.data], laidTests := true, laidLooks := .later }
def LogReadsCardSaid : Prop := Claim7.holds Tryz.pinned (.plain (OpenSpec.ofChange logReadsSpec)) logReadsCard

/-- THE TIED CARD OF 'bruitlaw30.LogKeeps'. -/
def logKeepsCard : Claim7 := { stood := { row := logKeepsRow, standIns := [], harness := (true, "330ec8c40367bc157e086e405dce7ad406f5624e56553dc0749f9d23023ca6d7"), looks := false }, kinds := [], alts := [], laidByText := true, laidKinds := [.data], laidTests := true, laidLooks := .later }
def LogKeepsCardSaid : Prop := Claim7.holds Tryz.pinned (.plain (OpenSpec.ofChange logKeepsSpec)) logKeepsCard

/-- THE TIED CARD OF 'bruitlaw54.CensusCounts'. -/
def censusCountsCard : Claim7 := { stood := { row := censusCountsRow, standIns := [], harness := (true, "330ec8c40367bc157e086e405dce7ad406f5624e56553dc0749f9d23023ca6d7"), looks := false }, kinds := [], alts := [], laidByText := true, laidKinds := [.data, .data, .data], laidTests := true, laidLooks := .later }
def CensusCountsCardSaid : Prop := Claim7.holds Tryz.pinned (.plain (OpenSpec.ofChange censusCountsSpec)) censusCountsCard

/-- THE TIED CARD OF 'bruitlaw54.CensusSums'. -/
def censusSumsCard : Claim7 := { stood := { row := censusSumsRow, standIns := [], harness := (true, "330ec8c40367bc157e086e405dce7ad406f5624e56553dc0749f9d23023ca6d7"), looks := false }, kinds := [], alts := [], laidByText := true, laidKinds := [.data, .data, .data], laidTests := true, laidLooks := .later }
def CensusSumsCardSaid : Prop := Claim7.holds Tryz.pinned (.plain (OpenSpec.ofChange censusSumsSpec)) censusSumsCard

/-- THE TIED CARD OF 'bruitlaw54.CensusTexts'. -/
def censusTextsCard : Claim7 := { stood := { row := censusTextsRow, standIns := [], harness := (true, "330ec8c40367bc157e086e405dce7ad406f5624e56553dc0749f9d23023ca6d7"), looks := false }, kinds := [], alts := [], laidByText := true, laidKinds := [.data, .data, .data], laidTests := true, laidLooks := .later }
def CensusTextsCardSaid : Prop := Claim7.holds Tryz.pinned (.plain (OpenSpec.ofChange censusTextsSpec)) censusTextsCard

/-- THE SECOND FORM's CARD OF 'bruitlaw34.MsgGood'. -/
def msgGoodUptoCard : Claim7 := { stood := { row := msgGoodUptoRow, standIns := [], harness := (true, "330ec8c40367bc157e086e405dce7ad406f5624e56553dc0749f9d23023ca6d7"), looks := false }, kinds := [], alts := [], laidByText := true, laidKinds := [.data], laidTests := true, laidLooks := .later }
def MsgGoodUptoCardSaid : Prop := Claim7.holds Tryz.pinned (.plain (OpenSpec.upto msgGoodSpec)) msgGoodUptoCard

/-- THE SECOND FORM's CARD OF 'bruitlaw34.MsgBytes'. -/
def msgBytesUptoCard : Claim7 := { stood := { row := msgBytesUptoRow, standIns := [], harness := (true, "330ec8c40367bc157e086e405dce7ad406f5624e56553dc0749f9d23023ca6d7"), looks := false }, kinds := [], alts := [], laidByText := true, laidKinds := [.data], laidTests := true, laidLooks := .later }
def MsgBytesUptoCardSaid : Prop := Claim7.holds Tryz.pinned (.plain (OpenSpec.upto msgBytesSpec)) msgBytesUptoCard

/-- THE SECOND FORM's CARD OF 'bruitlaw34.MsgBack'. -/
def msgBackUptoCard : Claim7 := { stood := { row := msgBackUptoRow, standIns := [], harness := (true, "330ec8c40367bc157e086e405dce7ad406f5624e56553dc0749f9d23023ca6d7"), looks := false }, kinds := [], alts := [], laidByText := true, laidKinds := [.data], laidTests := true, laidLooks := .later }
def MsgBackUptoCardSaid : Prop := Claim7.holds Tryz.pinned (.plain (OpenSpec.upto msgBackSpec)) msgBackUptoCard

/-- THE SECOND FORM's CARD OF 'bruitlaw34.MsgSpoilt'. -/
def msgSpoiltUptoCard : Claim7 := { stood := { row := msgSpoiltUptoRow, standIns := [], harness := (true, "330ec8c40367bc157e086e405dce7ad406f5624e56553dc0749f9d23023ca6d7"), looks := false }, kinds := [], alts := [], laidByText := true, laidKinds := [.data], laidTests := true, laidLooks := .later }
def MsgSpoiltUptoCardSaid : Prop := Claim7.holds Tryz.pinned (.plain (OpenSpec.upto msgSpoiltSpec)) msgSpoiltUptoCard

/-- THE SECOND FORM's CARD OF 'bruitlaw30.LogPlays'. -/
def logPlaysUptoCard : Claim7 := { stood := { row := logPlaysUptoRow, standIns := [], harness := (true, "330ec8c40367bc157e086e405dce7ad406f5624e56553dc0749f9d23023ca6d7"), looks := false }, kinds := [], alts := [], laidByText := true, laidKinds := [.data], laidTests := true, laidLooks := .later }
def LogPlaysUptoCardSaid : Prop := Claim7.holds Tryz.pinned (.plain (OpenSpec.upto logPlaysSpec)) logPlaysUptoCard

/-- THE SECOND FORM's CARD OF 'bruitlaw30.LogReads'. -/
def logReadsUptoCard : Claim7 := { stood := { row := logReadsUptoRow, standIns := [], harness := (true, "330ec8c40367bc157e086e405dce7ad406f5624e56553dc0749f9d23023ca6d7"), looks := false }, kinds := [], alts := [], laidByText := true, laidKinds := [.data], laidTests := true, laidLooks := .later }
def LogReadsUptoCardSaid : Prop := Claim7.holds Tryz.pinned (.plain (OpenSpec.upto logReadsSpec)) logReadsUptoCard

/-- THE SECOND FORM's CARD OF 'bruitlaw30.LogKeeps'. -/
def logKeepsUptoCard : Claim7 := { stood := { row := logKeepsUptoRow, standIns := [], harness := (true, "330ec8c40367bc157e086e405dce7ad406f5624e56553dc0749f9d23023ca6d7"), looks := false }, kinds := [], alts := [], laidByText := true, laidKinds := [.data], laidTests := true, laidLooks := .later }
def LogKeepsUptoCardSaid : Prop := Claim7.holds Tryz.pinned (.plain (OpenSpec.upto logKeepsSpec)) logKeepsUptoCard

/-- THE SECOND FORM's CARD OF 'bruitlaw54.CensusCounts'. -/
def censusCountsUptoCard : Claim7 := { stood := { row := censusCountsUptoRow, standIns := [], harness := (true, "330ec8c40367bc157e086e405dce7ad406f5624e56553dc0749f9d23023ca6d7"), looks := false }, kinds := [], alts := [], laidByText := true, laidKinds := [.data, .data, .data], laidTests := true, laidLooks := .later }
def CensusCountsUptoCardSaid : Prop := Claim7.holds Tryz.pinned (.plain (OpenSpec.upto censusCountsSpec)) censusCountsUptoCard

/-- THE SECOND FORM's CARD OF 'bruitlaw54.CensusSums'. -/
def censusSumsUptoCard : Claim7 := { stood := { row := censusSumsUptoRow, standIns := [], harness := (true, "330ec8c40367bc157e086e405dce7ad406f5624e56553dc0749f9d23023ca6d7"), looks := false }, kinds := [], alts := [], laidByText := true, laidKinds := [.data, .data, .data], laidTests := true, laidLooks := .later }
def CensusSumsUptoCardSaid : Prop := Claim7.holds Tryz.pinned (.plain (OpenSpec.upto censusSumsSpec)) censusSumsUptoCard

/-- THE SECOND FORM's CARD OF 'bruitlaw54.CensusTexts'. -/
def censusTextsUptoCard : Claim7 := { stood := { row := censusTextsUptoRow, standIns := [], harness := (true, "330ec8c40367bc157e086e405dce7ad406f5624e56553dc0749f9d23023ca6d7"), looks := false }, kinds := [], alts := [], laidByText := true, laidKinds := [.data, .data, .data], laidTests := true, laidLooks := .later }
def CensusTextsUptoCardSaid : Prop := Claim7.holds Tryz.pinned (.plain (OpenSpec.upto censusTextsSpec)) censusTextsUptoCard
end Rows
end Go.Proofs.YtdafiipedlglpaaGreatDoor
