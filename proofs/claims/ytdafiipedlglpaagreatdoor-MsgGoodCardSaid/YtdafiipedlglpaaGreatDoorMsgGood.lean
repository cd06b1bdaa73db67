/- Whether any message may be, and whether two are the same, is as the document says. No condition; the listed table of crc is tied to the program's text. -/
import Derived.Test.YtdafiipedlglpaaGreatDoorMsgGoodk
namespace Go.Proofs.YtdafiipedlglpaaGreatDoor
open Go.ChangeShapes Go.WideShapes Go.ChangeAt Go.RowKit Go.Deep

theorem msgGood_row : Rows.MsgGoodSaid :=
  OpenClaim.holds_of_wide 3 Tryz.f3 rfl rfl rfl rfl rfl rfl rfl ⟨rfl, rfl, rfl, rfl, rfl⟩ rfl rfl rfl rfl rfl (by kernel_rfl) Tryz.func3 (by unfold joinedFacts; rw [msgGood_k1, msgGood_k2, msgGood_k3, msgGood_k4]; kernel_rfl)
    (of_decide_eq_true (by kernel_rfl)) (by unfold Func.isWrapper; first | (rw [if_pos (by decide +kernel)]; kernel_rfl) | (rw [if_neg (by decide +kernel)]; exact ⟨rfl, rfl⟩))
    (fun os started H enc _ => msgGood_lifted os started H enc)
theorem msgGood_tied : Rows.msgGoodRow.laidByTextAt .later Tryz.pinned laidKs true := OpenClaim.laidByTextAt_later rfl rfl tie (by kernel_rfl)
theorem msgGood_holds : Rows.MsgGoodCardSaid :=
  Claim7.holds_tied_plain_at .later [] laidKs true harnessL false
    msgGood_row (fun _ h => by cases h) (by kernel_rfl) (fun _ h => by cases h) msgGood_tied rfl ⟨rfl, rfl⟩ (by kernel_rfl) rfl
    (fun f fn hf hfn => by
      obtain rfl : f = 3 := Option.some.inj ((show Tryz.prog.funcNamed "bruit/bruitlaw34.MsgGood" = some 3 by kernel_rfl).symm.trans hf) |>.symm
      obtain rfl : fn = Tryz.f3 := (Option.some.inj (Tryz.func3.symm.trans hfn)).symm
      exact ⟨by kernel_rfl, fun j t ht => by
        rw [Tryz.params3] at ht
        have hm : t ∈ [30] := by simpa using Array.mem_of_getElem? ht
        have hall : ([30].all fun u => !Tryz.prog.wantsStandIn u) = true := by kernel_rfl
        exact (show Tryz.prog.wantsStandIn t = false by simpa using List.all_eq_true.1 hall t hm)⟩)
    (by kernel_rfl)
end Go.Proofs.YtdafiipedlglpaaGreatDoor
