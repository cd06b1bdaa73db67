/- Whatever is appended, made sure, and lost is as the document says. No condition; the listed table of crc is tied to the program's text. -/
import Derived.Test.YtdafiipedlglpaaGreatDoorLogPlaysk
namespace Go.Proofs.YtdafiipedlglpaaGreatDoor
open Go.ChangeShapes Go.WideShapes Go.ChangeAt Go.RowKit Go.Deep

theorem logPlays_row : Rows.LogPlaysSaid :=
  OpenClaim.holds_of_wide 7 Tryz.f7 rfl rfl rfl rfl rfl rfl rfl ⟨rfl, rfl, rfl, rfl, rfl⟩ rfl rfl rfl rfl rfl (by kernel_rfl) Tryz.func7 (by unfold joinedFacts; rw [logPlays_k1, logPlays_k2, logPlays_k3, logPlays_k4]; kernel_rfl)
    (of_decide_eq_true (by kernel_rfl)) (by unfold Func.isWrapper; first | (rw [if_pos (by decide +kernel)]; kernel_rfl) | (rw [if_neg (by decide +kernel)]; exact ⟨rfl, rfl⟩))
    (fun os started H enc _ => logPlays_lifted os started H enc)
theorem logPlays_tied : Rows.logPlaysRow.laidByTextAt .later Tryz.pinned laidKs true := OpenClaim.laidByTextAt_later rfl rfl tie (by kernel_rfl)
theorem logPlays_holds : Rows.LogPlaysCardSaid :=
  Claim7.holds_tied_plain_at .later [] laidKs true harnessL false
    logPlays_row (fun _ h => by cases h) (by kernel_rfl) (fun _ h => by cases h) logPlays_tied rfl ⟨rfl, rfl⟩ (by kernel_rfl) rfl
    (fun f fn hf hfn => by
      obtain rfl : f = 7 := Option.some.inj ((show Tryz.prog.funcNamed "bruit/bruitlaw30.LogPlays" = some 7 by kernel_rfl).symm.trans hf) |>.symm
      obtain rfl : fn = Tryz.f7 := (Option.some.inj (Tryz.func7.symm.trans hfn)).symm
      exact ⟨by kernel_rfl, fun j t ht => by
        rw [Tryz.params7] at ht
        have hm : t ∈ [50] := by simpa using Array.mem_of_getElem? ht
        have hall : ([50].all fun u => !Tryz.prog.wantsStandIn u) = true := by kernel_rfl
        exact (show Tryz.prog.wantsStandIn t = false by simpa using List.all_eq_true.1 hall t hm)⟩)
    (by kernel_rfl)
end Go.Proofs.YtdafiipedlglpaaGreatDoor
