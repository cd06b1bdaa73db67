/-
  DERIVED. GIVEN WITH THE SEED: THE CARDS: each row of YtihggkmjalofiaaGreatDoorRows.lean that lists a variable, with what it lists TIED to the program's text (the seventh form; the later family's looks); each row that meets fmt, with fmt's text TOLD by the authors' own Lean function (tested against real Go, not proved from fmt's source: count such statements apart). THE CARD IS WHAT COUNTS. Prove the row's statement (the work); the ties are given (YtihggkmjalofiaaGreatDoorTie.lean); close each card by the builder's one call (the guide's Derived/Test/ToyasCard.lean, 'card_holds'). Laid BY PROGRAM, IN A SANDBOX (cutbox-door.mjs). By AI agents, Wed Nov 11 2026. No macro, syntax, notation, axiom, sorry.
-/
import Derived.Test.YtihggkmjalofiaaGreatDoorRows
import GoSem.ClaimSeven
namespace Go.Proofs.YtihggkmjalofiaaGreatDoor
namespace Rows

/-- THE TIED CARD OF 'bruitlaw47.FingerTurns'. -/
def fingerTurnsCard : Claim7 := { stood := { row := fingerTurnsRow, standIns := [], harness := (true, "170c66b581b739978ed1fef5b17ac6e150b594333b42abb76d5002b011044294"), looks := false }, kinds := [], alts := [], laidByText := true, laidKinds := [.data, .data], laidTests := true, laidLooks := .later }
def FingerTurnsCardSaid : Prop := Claim7.holds Tryz.pinned (.plain (OpenSpec.ofChange fingerTurnsSpec)) fingerTurnsCard

/-- THE TIED CARD OF 'bruitlaw47.FingerSays'. -/
def fingerSaysCard : Claim7 := { stood := { row := fingerSaysRow, standIns := [], harness := (true, "170c66b581b739978ed1fef5b17ac6e150b594333b42abb76d5002b011044294"), looks := false }, kinds := [], alts := [], laidByText := true, laidKinds := [.data, .data], laidTests := true, laidLooks := .later }
def FingerSaysCardSaid : Prop := Claim7.holds Tryz.pinned (.plain (OpenSpec.ofChange fingerSaysSpec)) fingerSaysCard

/-- THE TIED CARD OF 'bruitlaw53.ImageSpoilt'. -/
def imageSpoiltCard : Claim7 := { stood := { row := imageSpoiltRow, standIns := [], harness := (true, "170c66b581b739978ed1fef5b17ac6e150b594333b42abb76d5002b011044294"), looks := false }, kinds := [], alts := [], laidByText := true, laidKinds := [.data, .data], laidTests := true, laidLooks := .later }
def ImageSpoiltCardSaid : Prop := Claim7.holds Tryz.pinned (.plain (OpenSpec.ofChange imageSpoiltSpec)) imageSpoiltCard

/-- THE TIED CARD OF 'bruitlaw53.ImageOne'. -/
def imageOneCard : Claim7 := { stood := { row := imageOneRow, standIns := [], harness := (true, "170c66b581b739978ed1fef5b17ac6e150b594333b42abb76d5002b011044294"), looks := false }, kinds := [], alts := [], laidByText := true, laidKinds := [.data, .data], laidTests := true, laidLooks := .later }
def ImageOneCardSaid : Prop := Claim7.holds Tryz.pinned (.plain (OpenSpec.ofChange imageOneSpec)) imageOneCard

/-- THE TIED CARD OF 'bruitlaw53.ImageSays'. -/
def imageSaysCard : Claim7 := { stood := { row := imageSaysRow, standIns := [], harness := (true, "170c66b581b739978ed1fef5b17ac6e150b594333b42abb76d5002b011044294"), looks := false }, kinds := [], alts := [], laidByText := true, laidKinds := [.data, .data], laidTests := true, laidLooks := .later }
def ImageSaysCardSaid : Prop := Claim7.holds Tryz.pinned (.plain (OpenSpec.ofChange imageSaysSpec)) imageSaysCard

/-- THE TIED CARD OF 'bruitlaw35.DigestAsks'. -/
def digestAsksCard : Claim7 := { stood := { row := digestAsksRow, standIns := [], harness := (true, "170c66b581b739978ed1fef5b17ac6e150b594333b42abb76d5002b011044294"), looks := false }, kinds := [], alts := [], laidByText := true, laidKinds := [.data], laidTests := true, laidLooks := .later }
def DigestAsksCardSaid : Prop := Claim7.holds Tryz.pinned (.plain (OpenSpec.ofChange digestAsksSpec)) digestAsksCard

/-- THE TIED CARD OF 'bruitlaw35.DigestGives'. -/
def digestGivesCard : Claim7 := { stood := { row := digestGivesRow, standIns := [], harness := (true, "170c66b581b739978ed1fef5b17ac6e150b594333b42abb76d5002b011044294"), looks := false }, kinds := [], alts := [], laidByText := true, laidKinds := [.data], laidTests := true, laidLooks := .later }
def DigestGivesCardSaid : Prop := Claim7.holds Tryz.pinned (.plain (OpenSpec.ofChange digestGivesSpec)) digestGivesCard

/-- THE TIED CARD OF 'bruitlaw54.CensusTexts'. -/
def censusTextsCard : Claim7 := { stood := { row := censusTextsRow, standIns := [], harness := (true, "170c66b581b739978ed1fef5b17ac6e150b594333b42abb76d5002b011044294"), looks := false }, kinds := [], alts := [], laidByText := true, laidKinds := [.data, .data, .data], laidTests := true, laidLooks := .later }
def CensusTextsCardSaid : Prop := Claim7.holds Tryz.pinned (.plain (OpenSpec.ofChange censusTextsSpec)) censusTextsCard

/-- THE SECOND FORM's CARD OF 'bruitlaw47.FingerTurns'. -/
def fingerTurnsUptoCard : Claim7 := { stood := { row := fingerTurnsUptoRow, standIns := [], harness := (true, "170c66b581b739978ed1fef5b17ac6e150b594333b42abb76d5002b011044294"), looks := false }, kinds := [], alts := [], laidByText := true, laidKinds := [.data, .data], laidTests := true, laidLooks := .later }
def FingerTurnsUptoCardSaid : Prop := Claim7.holds Tryz.pinned (.plain (OpenSpec.upto fingerTurnsSpec)) fingerTurnsUptoCard

/-- THE SECOND FORM's CARD OF 'bruitlaw47.FingerSays'. -/
def fingerSaysUptoCard : Claim7 := { stood := { row := fingerSaysUptoRow, standIns := [], harness := (true, "170c66b581b739978ed1fef5b17ac6e150b594333b42abb76d5002b011044294"), looks := false }, kinds := [], alts := [], laidByText := true, laidKinds := [.data, .data], laidTests := true, laidLooks := .later }
def FingerSaysUptoCardSaid : Prop := Claim7.holds Tryz.pinned (.plain (OpenSpec.upto fingerSaysSpec)) fingerSaysUptoCard

/-- THE SECOND FORM's CARD OF 'bruitlaw53.ImageSpoilt'. -/
def imageSpoiltUptoCard : Claim7 := { stood := { row := imageSpoiltUptoRow, standIns := [], harness := (true, "170c66b581b739978ed1fef5b17ac6e150b594333b42abb76d5002b011044294"), looks := false }, kinds := [], alts := [], laidByText := true, laidKinds := [.data, .data], laidTests := true, laidLooks := .later }
def ImageSpoiltUptoCardSaid : Prop := Claim7.holds Tryz.pinned (.plain (OpenSpec.upto imageSpoiltSpec)) imageSpoiltUptoCard

/-- THE SECOND FORM's CARD OF 'bruitlaw53.ImageOne'. -/
def imageOneUptoCard : Claim7 := { stood := { row := imageOneUptoRow, standIns := [], harness := (true, "170c66b581b739978ed1fef5b17ac6e150b594333b42abb76d5002b011044294"), looks := false }, kinds := [], alts := [], laidByText := true, laidKinds := [.data, .data], laidTests := true, laidLooks := .later }
def ImageOneUptoCardSaid : Prop := Claim7.holds Tryz.pinned (.plain (OpenSpec.upto imageOneSpec)) imageOneUptoCard

/-- THE SECOND FORM's CARD OF 'bruitlaw53.ImageSays'. -/
def imageSaysUptoCard : Claim7 := { stood := { row := imageSaysUptoRow, standIns := [], harness := (true, "170c66b581b739978ed1fef5b17ac6e150b594333b42abb76d5002b011044294"), looks := false }, kinds := [], alts := [], laidByText := true, laidKinds := [.data, .data], laidTests := true, laidLooks := .later }
def ImageSaysUptoCardSaid : Prop := Claim7.holds Tryz.pinned (.plain (OpenSpec.upto imageSaysSpec)) imageSaysUptoCard

/-- THE SECOND FORM's CARD OF 'bruitlaw35.DigestAsks'. -/
def digestAsksUptoCard : Claim7 := { stood := { row := digestAsksUptoRow, standIns := [], harness := (true, "170c66b581b739978ed1fef5b17ac6e150b594333b42abb76d5002b011044294"), looks := false }, kinds := [], alts := [], laidByText := true, laidKinds := [.data], laidTests := true, laidLooks := .later }
def DigestAsksUptoCardSaid : Prop := Claim7.holds Tryz.pinned (.plain (OpenSpec.upto digestAsksSpec)) digestAsksUptoCard

/-- THE SECOND FORM's CARD OF 'bruitlaw35.DigestGives'. -/
def digestGivesUptoCard : Claim7 := { stood := { row := digestGivesUptoRow, standIns := [], harness := (true, "170c66b581b739978ed1fef5b17ac6e150b594333b42abb76d5002b011044294"), looks := false }, kinds := [], alts := [], laidByText := true, laidKinds := [.data], laidTests := true, laidLooks := .later }
def DigestGivesUptoCardSaid : Prop := Claim7.holds Tryz.pinned (.plain (OpenSpec.upto digestGivesSpec)) digestGivesUptoCard

/-- THE SECOND FORM's CARD OF 'bruitlaw54.CensusTexts'. -/
def censusTextsUptoCard : Claim7 := { stood := { row := censusTextsUptoRow, standIns := [], harness := (true, "170c66b581b739978ed1fef5b17ac6e150b594333b42abb76d5002b011044294"), looks := false }, kinds := [], alts := [], laidByText := true, laidKinds := [.data, .data, .data], laidTests := true, laidLooks := .later }
def CensusTextsUptoCardSaid : Prop := Claim7.holds Tryz.pinned (.plain (OpenSpec.upto censusTextsSpec)) censusTextsUptoCard
end Rows
end Go.Proofs.YtihggkmjalofiaaGreatDoor
