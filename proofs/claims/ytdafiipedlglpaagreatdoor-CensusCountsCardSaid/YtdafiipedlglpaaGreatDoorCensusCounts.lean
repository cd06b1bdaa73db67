/- Of any patches the rows are as the document says. No condition; the listed tables are tied to the program's text. -/
import Derived.Test.YtdafiipedlglpaaGreatDoorCensusCountsk
namespace Go.Proofs.YtdafiipedlglpaaGreatDoor
open Go.ChangeShapes Go.WideShapes Go.ChangeAt Go.RowKit Go.Deep

theorem censusCounts_row : Rows.CensusCountsSaid :=
  OpenClaim.holds_of_wide 10 Tryz.f10 rfl rfl rfl rfl rfl rfl rfl ⟨rfl, rfl, rfl, rfl, rfl⟩ rfl rfl rfl rfl rfl (by kernel_rfl) Tryz.func10 (by unfold joinedFacts; rw [censusCounts_k1, censusCounts_k2, censusCounts_k3, censusCounts_k4]; kernel_rfl)
    (of_decide_eq_true (by kernel_rfl)) (by unfold Func.isWrapper; first | (rw [if_pos (by decide +kernel)]; kernel_rfl) | (rw [if_neg (by decide +kernel)]; exact ⟨rfl, rfl⟩))
    (fun os started H enc _ => censusCounts_lifted os started H enc)
theorem censusCounts_tied : Rows.censusCountsRow.laidByTextAt .later Tryz.pinned laidKs true := OpenClaim.laidByTextAt_later rfl rfl tie2 (by kernel_rfl)
theorem censusCounts_holds : Rows.CensusCountsCardSaid :=
  Claim7.holds_tied_plain_at .later [] laidKs true harnessL false
    censusCounts_row (fun _ h => by cases h) (by kernel_rfl) (fun _ h => by cases h) censusCounts_tied rfl ⟨rfl, rfl⟩ (by kernel_rfl) rfl
    (fun f fn hf hfn => by
      obtain rfl : f = 10 := Option.some.inj ((show Tryz.prog.funcNamed "bruit/bruitlaw54.CensusCounts" = some 10 by kernel_rfl).symm.trans hf) |>.symm
      obtain rfl : fn = Tryz.f10 := (Option.some.inj (Tryz.func10.symm.trans hfn)).symm
      exact ⟨by kernel_rfl, fun j t ht => by
        rw [Tryz.params10] at ht
        have hm : t ∈ [28] := by simpa using Array.mem_of_getElem? ht
        have hall : ([28].all fun u => !Tryz.prog.wantsStandIn u) = true := by kernel_rfl
        exact (show Tryz.prog.wantsStandIn t = false by simpa using List.all_eq_true.1 hall t hm)⟩)
    (by kernel_rfl)
end Go.Proofs.YtdafiipedlglpaaGreatDoor
