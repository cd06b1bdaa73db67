/- What is listed with the statements of chapter 30: the table of crc. -/
import Derived.Test.YtdafiipedlglpaaGreatDoorCrcv
import Derived.Test.YtdafiipedlglpaaGreatDoorPaws
import Derived.Test.YtdafiipedlglpaaGreatDoorGen
import Derived.Test.YtdafiipedlglpaaGreatDoorTie
import Derived.Test.YtdafiipedlglpaaGreatDoorCards
import Derived.LaidMore
import Derived.Stop.Joined
import Derived.Stop.LaidErr
import Derived.Lib.LaidTab
import Derived.SevenTiedAt
namespace Go.Proofs.YtdafiipedlglpaaGreatDoor
open Go.ChangeShapes Go.WideShapes Go.ChangeAt Go.RowKit

abbrev laidL : List (String × DataW Unit) := [("bruit/crc.four", Rows.laid_bruit_crc_four)]
abbrev laidKs : List LaidKind := [.data]
abbrev harnessL : Bool × String := (true, "330ec8c40367bc157e086e405dce7ad406f5624e56553dc0749f9d23023ca6d7")
theorem door_met (os : Os) (args : Array Value) : laidMetH Tryz.prog laidL ((World.doorLaid Tryz.prog 400 os).forCall (fun _ _ => 0) ⟨#[], args, []⟩).memory :=
  laidMetH_of_parts3 (fuel := 8) (laidMet_of_run' 8 (by kernel_rfl) (by kernel_rfl)) (by kernel_rfl) (by kernel_rfl)
theorem tabOk_of {W : World} (h : laidMetH Tryz.prog laidL W) : FourOk W := by
  rw [MakeChecks.laidMetH_plain _ _ _ (by kernel_rfl)] at h
  exact Lib.tabIs_of_head (g := 0) (k := .u32) (zs := tabC.map fun (r : B32) => ((r.toNat : Nat) : Int)) (rest := []) gFour (by kernel_rfl) Tryz.underlying300 Tryz.underlying47 (by kernel_rfl) (by kernel_rfl) h
end Go.Proofs.YtdafiipedlglpaaGreatDoor
