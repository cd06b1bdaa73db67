/- What is listed with the statements of chapter 54: three tables, one of which the text of numbers reads. -/
import Derived.Test.YtihggkmjalofiaaGreatDoorStaj
import Derived.Test.YtihggkmjalofiaaGreatDoorPaws
import Derived.Test.YtihggkmjalofiaaGreatDoorGen
import Derived.Test.YtihggkmjalofiaaGreatDoorTie
import Derived.Test.YtihggkmjalofiaaGreatDoorCards
import Derived.LaidMore
import Derived.Stop.Joined
import Derived.Stop.LaidErr
import Derived.Lib.LaidTab
import Derived.SevenTiedAt
namespace Go.Proofs.YtihggkmjalofiaaGreatDoor
open Go.ChangeShapes Go.WideShapes Go.ChangeAt Go.RowKit

abbrev laidL : List (String × DataW Unit) := [("math/bits.deBruijn32tab", Rows.laid_math_bits_deBruijn32tab), ("math/bits.deBruijn64tab", Rows.laid_math_bits_deBruijn64tab), ("internal/strconv.uint64pow10", Rows.laid_internal_strconv_uint64pow10)]
abbrev laidKs : List LaidKind := [.data, .data, .data]
abbrev harnessL : Bool × String := (true, "170c66b581b739978ed1fef5b17ac6e150b594333b42abb76d5002b011044294")
theorem door_met (os : Os) (args : Array Value) : laidMetH Tryz.prog laidL ((World.doorLaid Tryz.prog 400 os).forCall (fun _ _ => 0) ⟨#[], args, []⟩).memory :=
 laidMetH_of_parts3 (fuel := 8) (laidMet_of_run' 8 (by kernel_rfl) (by kernel_rfl)) (by kernel_rfl) (by kernel_rfl)
theorem laidMet_tail {P : Program} {x : String × DataW Unit} {rest : List (String × DataW Unit)} {w : World} (h : laidMet P (x :: rest) w) : laidMet P rest w := by
 obtain ⟨ps, h1, h2, h3⟩ := h
 obtain ⟨g, t, cs, fuel, p, q, _, _, _, _, hr, hps⟩ := h1
 subst hps
 exact ⟨q, hr, (List.nodup_append.1 h2).2.1, fun b off hm => h3 b off (List.mem_append_right _ hm)⟩
theorem tabOk_of {W : World} (h : laidMetH Tryz.prog laidL W) : PowOk W := by
 rw [MakeChecks.laidMetH_plain _ _ _ (by kernel_rfl)] at h
 exact Lib.tabIs_of_head (g := 2) (k := .u64) (zs := Lib.pow10Tab) (rest := []) gPow (by kernel_rfl) Tryz.underlying457 Tryz.underlying76 (by kernel_rfl) (by kernel_rfl) (laidMet_tail (laidMet_tail h))
end Go.Proofs.YtihggkmjalofiaaGreatDoor

/- Rows of any numbers, opened. -/
namespace Go.Proofs.YtihggkmjalofiaaGreatDoor
open Go.RowKit

theorem in_of54 {z : Int} (h : (Lit.int .i64 z).wf = true) : inI64 z := by
 simp [Lit.wf, IntKind.min, IntKind.max, IntKind.signed, IntKind.bits] at h
 unfold inI64
 omega
theorem row_of54 {cs : List Value} (h : FlatOk ([.int .u8] ++ List.replicate 8 (.int .i64)) cs) : ∃ r : RowR, cs = encR r ∧ anyR r := by
 cases cs with
 | nil => exact h.elim
 | cons v cs =>
  obtain ⟨⟨a, rfl, ha⟩, h'⟩ := h
  obtain ⟨zs, rfl, hl, hw⟩ := flatOk_ints 8 cs h'
  match zs, hl, hw with
  | [b, c, d, e, f, g, i, j], _, hw =>
   refine ⟨(a, b, c, d, e, f, g, i, j), rfl, ?_, fun z hz => in_of54 (hw z hz)⟩
   simp [Lit.wf, IntKind.min, IntKind.max, IntKind.signed, IntKind.bits] at ha
   show 0 ≤ a ∧ a < 256
   omega
theorem rows54_of {w : World} {A : Option Addr} {n c : Nat} {rows : List (List Value)} (h : RowsAt [.int .u8, .int .i64, .int .i64, .int .i64, .int .i64, .int .i64, .int .i64, .int .i64, .int .i64] w A n c rows) :
  ∃ R : List RowR, (∀ r ∈ R, anyR r) ∧ R.length = n ∧ Sl w w.heap.size 9 A n (R.flatMap encR) := by
 obtain ⟨R, hz, hg⟩ := rows_map encR anyR rows (fun r hr => row_of54 (h.ok r hr))
 have hsl := h.sl
 rw [hz, ← List.flatMap_def] at hsl
 exact ⟨R, hg, by rw [← h.len, hz]; simp, hsl⟩
end Go.Proofs.YtihggkmjalofiaaGreatDoor

/- The law CensusTexts: its tables are tied. -/
namespace Go.Proofs.YtihggkmjalofiaaGreatDoor
open Go.ChangeShapes Go.WideShapes Go.ChangeAt Go.RowKit Go.Deep

theorem censusTexts_tied : Rows.censusTextsRow.laidByTextAt .later Tryz.pinned laidKs true := OpenClaim.laidByTextAt_later rfl rfl tie3 (by kernel_rfl)
end Go.Proofs.YtihggkmjalofiaaGreatDoor
