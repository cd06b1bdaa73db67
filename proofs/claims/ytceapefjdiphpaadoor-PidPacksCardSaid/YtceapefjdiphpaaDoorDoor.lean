/- What every tied card of this seat shares: the listed variables, and what they give the walks. -/
import Derived.Test.YtceapefjdiphpaaDoorLift
import Derived.Test.YtceapefjdiphpaaDoorPidt
import Derived.Test.YtceapefjdiphpaaDoorTie
import Derived.Test.YtceapefjdiphpaaDoorCards
import Derived.LaidMore
import Derived.Stop.Joined
import Derived.Stop.LaidErr
import Derived.Lib.LaidTab
import Derived.SevenTiedAt
namespace Go.Proofs.YtceapefjdiphpaaDoor
open Go.ChangeShapes Go.WideShapes Go.ChangeAt Go.RowKit

abbrev laidL : List (String × DataW Unit) := [("math/bits.deBruijn32tab", Rows.laid_math_bits_deBruijn32tab), ("math/bits.deBruijn64tab", Rows.laid_math_bits_deBruijn64tab), ("internal/strconv.uint64pow10", Rows.laid_internal_strconv_uint64pow10)]
abbrev laidKs : List LaidKind := [.data, .data, .data]
abbrev harnessL : Bool × String := (true, "0b5c06f380664384ef52725f14c0225065acc1cc04f8af03013c68421fa77f55")
theorem door_met (os : Os) (args : Array Value) : laidMetH Tryd.prog laidL ((World.doorLaid Tryd.prog 400 os).forCall (fun _ _ => 0) ⟨#[], args, []⟩).memory :=
  laidMetH_of_parts3 (fuel := 8) (laidMet_of_run' 8 (by kernel_rfl) (by kernel_rfl)) (by kernel_rfl) (by kernel_rfl)
theorem tabOk_of {W : World} (h : laidMetH Tryd.prog laidL W) : TabOk W := by
  rw [MakeChecks.laidMetH_plain _ _ _ (by kernel_rfl)] at h
  have h2 := h.tail.tail
  exact Lib.tabIs_of_head (g := 0) (k := .u64) (zs := Lib.pow10Tab) (rest := []) gTab (by kernel_rfl) Tryd.underlying51 Tryd.underlying44 (by kernel_rfl) (by kernel_rfl) h2
end Go.Proofs.YtceapefjdiphpaaDoor
