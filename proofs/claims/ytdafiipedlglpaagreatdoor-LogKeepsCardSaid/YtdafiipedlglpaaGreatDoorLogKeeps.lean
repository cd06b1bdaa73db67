/- A crash leaves the first patches, with all that were sure. No condition; the listed table of crc is tied to the program's text. -/
import Derived.Test.YtdafiipedlglpaaGreatDoorLogKeepsk
namespace Go.Proofs.YtdafiipedlglpaaGreatDoor
open Go.ChangeShapes Go.WideShapes Go.ChangeAt Go.RowKit Go.Deep

theorem logKeeps_row : Rows.LogKeepsSaid :=
  OpenClaim.holds_of_wide 9 Tryz.f9 rfl rfl rfl rfl rfl rfl rfl ⟨rfl, rfl, rfl, rfl, rfl⟩ rfl rfl rfl rfl rfl (by kernel_rfl) Tryz.func9 (by unfold joinedFacts; rw [logKeeps_k1, logKeeps_k2, logKeeps_k3, logKeeps_k4]; kernel_rfl)
    (of_decide_eq_true (by kernel_rfl)) (by unfold Func.isWrapper; first | (rw [if_pos (by decide +kernel)]; kernel_rfl) | (rw [if_neg (by decide +kernel)]; exact ⟨rfl, rfl⟩))
    (fun os started H enc _ => logKeeps_lifted os started H enc)
theorem logKeeps_tied : Rows.logKeepsRow.laidByTextAt .later Tryz.pinned laidKs true := OpenClaim.laidByTextAt_later rfl rfl tie (by kernel_rfl)
theorem logKeeps_holds : Rows.LogKeepsCardSaid :=
  Claim7.holds_tied_plain_at .later [] laidKs true harnessL false
    logKeeps_row (fun _ h => by cases h) (by kernel_rfl) (fun _ h => by cases h) logKeeps_tied rfl ⟨rfl, rfl⟩ (by kernel_rfl) rfl
    (fun f fn hf hfn => by
      obtain rfl : f = 9 := Option.some.inj ((show Tryz.prog.funcNamed "bruit/bruitlaw30.LogKeeps" = some 9 by kernel_rfl).symm.trans hf) |>.symm
      obtain rfl : fn = Tryz.f9 := (Option.some.inj (Tryz.func9.symm.trans hfn)).symm
      exact ⟨by kernel_rfl, fun j t ht => by
        rw [Tryz.params9] at ht
        have hm : t ∈ [50, 3, 64] := by simpa using Array.mem_of_getElem? ht
        have hall : ([50, 3, 64].all fun u => !Tryz.prog.wantsStandIn u) = true := by kernel_rfl
        exact (show Tryz.prog.wantsStandIn t = false by simpa using List.all_eq_true.1 hall t hm)⟩)
    (by kernel_rfl)
end Go.Proofs.YtdafiipedlglpaaGreatDoor
