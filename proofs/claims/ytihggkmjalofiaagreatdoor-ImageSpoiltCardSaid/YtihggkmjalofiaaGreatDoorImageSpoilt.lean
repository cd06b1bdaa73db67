/- An image that was spoilt is refused, or is one of its own. No condition; the listed tables are tied to the program's text. -/
import Derived.Test.YtihggkmjalofiaaGreatDoorImageSpoiltr
import Derived.Test.YtihggkmjalofiaaGreatDoorImageSpoiltt
import Derived.Test.YtihggkmjalofiaaGreatDoorImageSpoiltu
namespace Go.Proofs.YtihggkmjalofiaaGreatDoor
open Go.ChangeShapes Go.WideShapes Go.ChangeAt Go.RowKit Go.Deep

theorem imageSpoilt_holds : Rows.ImageSpoiltCardSaid :=
  Claim7.holds_tied_plain_at .later [] laidKs true harnessL false
    imageSpoilt_row (fun _ h => by cases h) (by kernel_rfl) (fun _ h => by cases h) imageSpoilt_tied rfl ⟨rfl, rfl⟩ (by kernel_rfl) rfl
    (fun f fn hf hfn => by
      obtain rfl : f = 5 := Option.some.inj ((show Tryz.prog.funcNamed "bruit/bruitlaw53.ImageSpoilt" = some 5 by kernel_rfl).symm.trans hf) |>.symm
      obtain rfl : fn = Tryz.f5 := (Option.some.inj (Tryz.func5.symm.trans hfn)).symm
      exact ⟨by kernel_rfl, fun j t ht => by
        rw [Tryz.params5] at ht
        have hm : t ∈ [22, 57] := by simpa using Array.mem_of_getElem? ht
        have hall : ([22, 57].all fun u => !Tryz.prog.wantsStandIn u) = true := by kernel_rfl
        exact (show Tryz.prog.wantsStandIn t = false by simpa using List.all_eq_true.1 hall t hm)⟩)
    imageSpoilt_goes
end Go.Proofs.YtihggkmjalofiaaGreatDoor
