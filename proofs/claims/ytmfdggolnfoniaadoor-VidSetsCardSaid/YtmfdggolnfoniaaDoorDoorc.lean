/- What every tied card of this seat shares: the listed variables, and what they give the walks. -/
import Derived.Test.YtmfdggolnfoniaaDoorLift
import Derived.Test.YtmfdggolnfoniaaDoorParq
import Derived.Test.YtmfdggolnfoniaaDoorTie
import Derived.Test.YtmfdggolnfoniaaDoorCards
import Derived.LaidMore
import Derived.Stop.Joined
import Derived.Stop.LaidErr
import Derived.Lib.LaidTab
import Derived.SevenTiedAt
namespace Go.Proofs.YtmfdggolnfoniaaDoor
open Go.ChangeShapes Go.WideShapes Go.ChangeAt Go.RowKit

abbrev laidL : List (String × DataW Unit) := [("math/bits.deBruijn32tab", Rows.laid_math_bits_deBruijn32tab), ("math/bits.deBruijn64tab", Rows.laid_math_bits_deBruijn64tab), ("internal/strconv.uint64pow10", Rows.laid_internal_strconv_uint64pow10)]
abbrev laidKs : List LaidKind := [.data, .data, .data]
abbrev laidL5 : List (String × DataW Unit) := [("math/bits.deBruijn32tab", Rows.laid_math_bits_deBruijn32tab), ("math/bits.deBruijn64tab", Rows.laid_math_bits_deBruijn64tab), ("internal/strconv.uint64pow10", Rows.laid_internal_strconv_uint64pow10), ("strconv.ErrRange", Rows.laid_strconv_ErrRange), ("strconv.ErrSyntax", Rows.laid_strconv_ErrSyntax)]
abbrev laidKs5 : List LaidKind := [.data, .data, .data, .sentinel, .sentinel]
abbrev harnessL : Bool × String := (true, "1f3f7d305a71e0946204c5430b233ee84044492f923cdeb78e5ca74f1b6688ae")
theorem door_met (os : Os) (args : Array Value) : laidMetH Tryd.prog laidL ((World.doorLaid Tryd.prog 400 os).forCall (fun _ _ => 0) ⟨#[], args, []⟩).memory :=
  laidMetH_of_parts3 (fuel := 8) (laidMet_of_run' 8 (by kernel_rfl) (by kernel_rfl)) (by kernel_rfl) (by kernel_rfl)
theorem door_met5 (os : Os) (args : Array Value) : laidMetH Tryd.prog laidL5 ((World.doorLaid Tryd.prog 400 os).forCall (fun _ _ => 0) ⟨#[], args, []⟩).memory :=
  laidMetH_of_parts3 (fuel := 8) (laidMet_of_run' 8 (by kernel_rfl) (by kernel_rfl)) (by kernel_rfl) (by kernel_rfl)
theorem tabOk_of {W : World} (h : laidMetH Tryd.prog laidL W) : TabOk W := by
  rw [MakeChecks.laidMetH_plain _ _ _ (by kernel_rfl)] at h
  have h2 := h.tail.tail
  exact Lib.tabIs_of_head (g := 3) (k := .u64) (zs := Lib.pow10Tab) (rest := []) gTab (by kernel_rfl) Tryd.underlying132 Tryd.underlying58 (by kernel_rfl) (by kernel_rfl) h2
theorem gES : Tryd.prog.globalNamed "strconv.ErrSyntax" = some 1 := by kernel_rfl
theorem gER : Tryd.prog.globalNamed "strconv.ErrRange" = some 2 := by kernel_rfl
theorem gEST : (Tryd.prog.globals[1]?).map (·.type) = some 60 := by kernel_rfl
theorem gERT : (Tryd.prog.globals[2]?).map (·.type) = some 60 := by kernel_rfl
theorem starES : "*" ++ "errors.errorString" = "*errors.errorString" := by decide
theorem rowES (u : TypeId) (h : Tryd.prog.typeName? 3 u = some "*errors.errorString") : u = 128 :=
  typeName_ptr_named (nm := "errors.errorString") (by rw [starES]; kernel_rfl) (by kernel_rfl) (by decide) u (by rw [starES]; exact h)
theorem pwOk_of {W : World} (h : laidMetH Tryd.prog laidL5 W) : PW W := by
  rw [MakeChecks.laidMetH_plain _ _ _ (by kernel_rfl)] at h
  have h2 := h.tail.tail
  obtain ⟨a0, s0, hv0, -, -, -⟩ := laid_sentinel h2.tail gER gERT Tryd.underlying60 rowES Tryd.underlying128 Tryd.underlying130 rfl rfl Tryd.underlying9 (by kernel_rfl) (by kernel_rfl)
  obtain ⟨a1, s1, hv1, -, -, -⟩ := laid_sentinel h2.tail.tail gES gEST Tryd.underlying60 rowES Tryd.underlying128 Tryd.underlying130 rfl rfl Tryd.underlying9 (by kernel_rfl) (by kernel_rfl)
  exact ⟨Lib.tabIs_of_head (g := 3) (k := .u64) (zs := Lib.pow10Tab) gTab (by kernel_rfl) Tryd.underlying132 Tryd.underlying58 (by kernel_rfl) (by kernel_rfl) h2, ⟨_, _, hv1⟩, ⟨_, _, hv0⟩⟩
end Go.Proofs.YtmfdggolnfoniaaDoor
