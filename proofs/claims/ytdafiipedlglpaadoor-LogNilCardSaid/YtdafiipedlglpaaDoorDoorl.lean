/- What is listed with the statement LogNil: the table of crc. -/
import Derived.Test.YtdafiipedlglpaaDoorCrcv
import Derived.Test.YtdafiipedlglpaaDoorPaws
import Derived.Test.YtdafiipedlglpaaDoorGen
import Derived.Test.YtdafiipedlglpaaDoorTie
import Derived.Test.YtdafiipedlglpaaDoorCards
import Derived.LaidMore
import Derived.Stop.Joined
import Derived.Stop.LaidErr
import Derived.Lib.LaidTab
import Derived.SevenTiedAt
namespace Go.Proofs.YtdafiipedlglpaaDoor
open Go.ChangeShapes Go.WideShapes Go.ChangeAt Go.RowKit

abbrev laidL : List (String × DataW Unit) := [("bruit/crc.four", Rows.laid_bruit_crc_four)]
abbrev laidKs : List LaidKind := [.data]
abbrev harnessL : Bool × String := (true, "b26a5a46b380fa529dfc4b0717888ecc5e4430f877ce039e73117158802fccb0")
theorem door_met (os : Os) (args : Array Value) : laidMetH Tryd.prog laidL ((World.doorLaid Tryd.prog 400 os).forCall (fun _ _ => 0) ⟨#[], args, []⟩).memory :=
  laidMetH_of_parts3 (fuel := 8) (laidMet_of_run' 8 (by kernel_rfl) (by kernel_rfl)) (by kernel_rfl) (by kernel_rfl)
theorem tabOk_of {W : World} (h : laidMetH Tryd.prog laidL W) : FourOk W := by
  rw [MakeChecks.laidMetH_plain _ _ _ (by kernel_rfl)] at h
  exact Lib.tabIs_of_head (g := 0) (k := .u32) (zs := tabC.map fun (r : B32) => ((r.toNat : Nat) : Int)) (rest := []) gFour (by kernel_rfl) Tryd.underlying114 Tryd.underlying68 (by kernel_rfl) (by kernel_rfl) h
end Go.Proofs.YtdafiipedlglpaaDoor
