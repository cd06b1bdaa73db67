/- On any rows the texts agree. No condition; the listed tables are tied to the program's text. -/
import Derived.Test.YtihggkmjalofiaaGreatDoorCensusTextsr
import Derived.Test.YtihggkmjalofiaaGreatDoorDoort
import Derived.Test.YtihggkmjalofiaaGreatDoorCensusTextsu
namespace Go.Proofs.YtihggkmjalofiaaGreatDoor
open Go.ChangeShapes Go.WideShapes Go.ChangeAt Go.RowKit Go.Deep

theorem censusTexts_holds : Rows.CensusTextsCardSaid :=
 Claim7.holds_tied_plain_at .later [] laidKs true harnessL false
  censusTexts_row (fun _ h => by cases h) (by kernel_rfl) (fun _ h => by cases h) censusTexts_tied rfl ⟨rfl, rfl⟩ (by kernel_rfl) rfl
  (fun f fn hf hfn => by
   obtain rfl : f = 10 := Option.some.inj ((show Tryz.prog.funcNamed "bruit/bruitlaw54.CensusTexts" = some 10 by kernel_rfl).symm.trans hf) |>.symm
   obtain rfl : fn = Tryz.f10 := (Option.some.inj (Tryz.func10.symm.trans hfn)).symm
   exact ⟨by kernel_rfl, fun j t ht => by
    rw [Tryz.params10] at ht
    have hm : t ∈ [104] := by simpa using Array.mem_of_getElem? ht
    have hall : ([104].all fun u => !Tryz.prog.wantsStandIn u) = true := by kernel_rfl
    exact (show Tryz.prog.wantsStandIn t = false by simpa using List.all_eq_true.1 hall t hm)⟩)
  censusTexts_goes
end Go.Proofs.YtihggkmjalofiaaGreatDoor
