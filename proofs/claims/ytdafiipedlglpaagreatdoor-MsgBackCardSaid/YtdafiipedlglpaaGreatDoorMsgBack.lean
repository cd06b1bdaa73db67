/- What is encoded is decoded as it was; what is decoded may be, and is encoded so. No condition; the listed table of crc is tied to the program's text. -/
import Derived.Test.YtdafiipedlglpaaGreatDoorMsgBackk
namespace Go.Proofs.YtdafiipedlglpaaGreatDoor
open Go.ChangeShapes Go.WideShapes Go.ChangeAt Go.RowKit Go.Deep

theorem msgBack_row : Rows.MsgBackSaid :=
  OpenClaim.holds_of_wide 5 Tryz.f5 rfl rfl rfl rfl rfl rfl rfl ⟨rfl, rfl, rfl, rfl, rfl⟩ rfl rfl rfl rfl rfl (by kernel_rfl) Tryz.func5 (by unfold joinedFacts; rw [msgBack_k1, msgBack_k2, msgBack_k3, msgBack_k4]; kernel_rfl)
    (of_decide_eq_true (by kernel_rfl)) (by unfold Func.isWrapper; first | (rw [if_pos (by decide +kernel)]; kernel_rfl) | (rw [if_neg (by decide +kernel)]; exact ⟨rfl, rfl⟩))
    (fun os started H enc _ => msgBack_lifted os started H enc)
theorem msgBack_tied : Rows.msgBackRow.laidByTextAt .later Tryz.pinned laidKs true := OpenClaim.laidByTextAt_later rfl rfl tie (by kernel_rfl)
theorem msgBack_holds : Rows.MsgBackCardSaid :=
  Claim7.holds_tied_plain_at .later [] laidKs true harnessL false
    msgBack_row (fun _ h => by cases h) (by kernel_rfl) (fun _ h => by cases h) msgBack_tied rfl ⟨rfl, rfl⟩ (by kernel_rfl) rfl
    (fun f fn hf hfn => by
      obtain rfl : f = 5 := Option.some.inj ((show Tryz.prog.funcNamed "bruit/bruitlaw34.MsgBack" = some 5 by kernel_rfl).symm.trans hf) |>.symm
      obtain rfl : fn = Tryz.f5 := (Option.some.inj (Tryz.func5.symm.trans hfn)).symm
      exact ⟨by kernel_rfl, fun j t ht => by
        rw [Tryz.params5] at ht
        have hm : t ∈ [30, 35] := by simpa using Array.mem_of_getElem? ht
        have hall : ([30, 35].all fun u => !Tryz.prog.wantsStandIn u) = true := by kernel_rfl
        exact (show Tryz.prog.wantsStandIn t = false by simpa using List.all_eq_true.1 hall t hm)⟩)
    (by kernel_rfl)
end Go.Proofs.YtdafiipedlglpaaGreatDoor
