/- In whichever order patches come, the graph has one fingerprint. No condition; the listed tables are tied to the program's text. -/
import Derived.Test.YtihggkmjalofiaaGreatDoorFingerTurnsr
import Derived.Test.YtihggkmjalofiaaGreatDoorFingerTurnst
import Derived.Test.YtihggkmjalofiaaGreatDoorFingerTurnsu
namespace Go.Proofs.YtihggkmjalofiaaGreatDoor
open Go.ChangeShapes Go.WideShapes Go.ChangeAt Go.RowKit Go.Deep

theorem fingerTurns_holds : Rows.FingerTurnsCardSaid :=
  Claim7.holds_tied_plain_at .later [] laidKs true harnessL false
    fingerTurns_row (fun _ h => by cases h) (by kernel_rfl) (fun _ h => by cases h) fingerTurns_tied rfl ⟨rfl, rfl⟩ (by kernel_rfl) rfl
    (fun f fn hf hfn => by
      obtain rfl : f = 3 := Option.some.inj ((show Tryz.prog.funcNamed "bruit/bruitlaw47.FingerTurns" = some 3 by kernel_rfl).symm.trans hf) |>.symm
      obtain rfl : fn = Tryz.f3 := (Option.some.inj (Tryz.func3.symm.trans hfn)).symm
      exact ⟨by kernel_rfl, fun j t ht => by
        rw [Tryz.params3] at ht
        have hm : t ∈ [22, 5] := by simpa using Array.mem_of_getElem? ht
        have hall : ([22, 5].all fun u => !Tryz.prog.wantsStandIn u) = true := by kernel_rfl
        exact (show Tryz.prog.wantsStandIn t = false by simpa using List.all_eq_true.1 hall t hm)⟩)
    fingerTurns_goes
end Go.Proofs.YtihggkmjalofiaaGreatDoor
