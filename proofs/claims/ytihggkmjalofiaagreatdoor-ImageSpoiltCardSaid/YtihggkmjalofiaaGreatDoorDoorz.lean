/- What is listed with the statements of chapters 47 and 53: the two tables of sha. -/
import Derived.Test.YtihggkmjalofiaaGreatDoorLst
import Derived.Test.YtihggkmjalofiaaGreatDoorPaws
import Derived.Test.YtihggkmjalofiaaGreatDoorGen
import Derived.Test.YtihggkmjalofiaaGreatDoorTie
import Derived.Test.YtihggkmjalofiaaGreatDoorCards
import Derived.LaidMore
import Derived.Stop.Joined
import Derived.Stop.LaidErr
import Derived.Lib.LaidTab
import Derived.SevenTiedAt
namespace Go.Proofs.YtihggkmjalofiaaGreatDoor
open Go.ChangeShapes Go.WideShapes Go.ChangeAt Go.RowKit

abbrev laidL : List (String × DataW Unit) := [("bruit/sha.constants", Rows.laid_bruit_sha_constants), ("bruit/sha.begin", Rows.laid_bruit_sha_begin)]
abbrev laidKs : List LaidKind := [.data, .data]
abbrev harnessL : Bool × String := (true, "170c66b581b739978ed1fef5b17ac6e150b594333b42abb76d5002b011044294")
theorem door_met (os : Os) (args : Array Value) : laidMetH Tryz.prog laidL ((World.doorLaid Tryz.prog 400 os).forCall (fun _ _ => 0) ⟨#[], args, []⟩).memory :=
  laidMetH_of_parts3 (fuel := 8) (laidMet_of_run' 8 (by kernel_rfl) (by kernel_rfl)) (by kernel_rfl) (by kernel_rfl)
theorem laidMet_tail {P : Program} {x : String × DataW Unit} {rest : List (String × DataW Unit)} {w : World} (h : laidMet P (x :: rest) w) : laidMet P rest w := by
  obtain ⟨ps, h1, h2, h3⟩ := h
  obtain ⟨g, t, cs, fuel, p, q, _, _, _, _, hr, hps⟩ := h1
  subst hps
  exact ⟨q, hr, (List.nodup_append.1 h2).2.1, fun b off hm => h3 b off (List.mem_append_right _ hm)⟩
theorem dataK : (Rows.laid_bruit_sha_constants : DataW Unit) = Lib.tabData .u32 (kS.map fun r => ((r.toNat : Nat) : Int)) := by kernel_rfl
theorem dataB : (Rows.laid_bruit_sha_begin : DataW Unit) = Lib.tabData .u32 (hS.map fun r => ((r.toNat : Nat) : Int)) := by kernel_rfl
theorem tabOk_of {W : World} (h : laidMetH Tryz.prog laidL W) : ShaK W ∧ ShaB W := by
  rw [MakeChecks.laidMetH_plain _ _ _ (by kernel_rfl)] at h
  have h1 : laidMet Tryz.prog (("bruit/sha.constants", Lib.tabData .u32 (kS.map fun r => ((r.toNat : Nat) : Int))) :: [("bruit/sha.begin", Rows.laid_bruit_sha_begin)]) W := by rw [← dataK]; exact h
  have h2 : laidMet Tryz.prog (("bruit/sha.begin", Lib.tabData .u32 (hS.map fun r => ((r.toNat : Nat) : Int))) :: []) W := by rw [← dataB]; exact laidMet_tail h
  exact ⟨Lib.tabIs_of_head gShaK (by kernel_rfl) Tryz.underlying315 Tryz.underlying153 (by kernel_rfl) (by kernel_rfl) h1,
    Lib.tabIs_of_head gShaB (by kernel_rfl) Tryz.underlying236 Tryz.underlying153 (by kernel_rfl) (by kernel_rfl) h2⟩
end Go.Proofs.YtihggkmjalofiaaGreatDoor
