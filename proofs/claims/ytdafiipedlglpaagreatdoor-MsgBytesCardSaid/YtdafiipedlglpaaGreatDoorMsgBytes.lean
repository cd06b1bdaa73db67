/- Any message is encoded as the document says, or refused, and any bytes, with their sum or another one, are decoded so, or it is told what is wrong first. No condition; the listed table of crc is tied to the program's text. -/
import Derived.Test.YtdafiipedlglpaaGreatDoorMsgBytesk
namespace Go.Proofs.YtdafiipedlglpaaGreatDoor
open Go.ChangeShapes Go.WideShapes Go.ChangeAt Go.RowKit Go.Deep

theorem msgBytes_row : Rows.MsgBytesSaid :=
  OpenClaim.holds_of_wide 4 Tryz.f4 rfl rfl rfl rfl rfl rfl rfl ⟨rfl, rfl, rfl, rfl, rfl⟩ rfl rfl rfl rfl rfl (by kernel_rfl) Tryz.func4 (by unfold joinedFacts; rw [msgBytes_k1, msgBytes_k2, msgBytes_k3, msgBytes_k4]; kernel_rfl)
    (of_decide_eq_true (by kernel_rfl)) (by unfold Func.isWrapper; first | (rw [if_pos (by decide +kernel)]; kernel_rfl) | (rw [if_neg (by decide +kernel)]; exact ⟨rfl, rfl⟩))
    (fun os started H enc _ => msgBytes_lifted os started H enc)
theorem msgBytes_tied : Rows.msgBytesRow.laidByTextAt .later Tryz.pinned laidKs true := OpenClaim.laidByTextAt_later rfl rfl tie (by kernel_rfl)
theorem msgBytes_holds : Rows.MsgBytesCardSaid :=
  Claim7.holds_tied_plain_at .later [] laidKs true harnessL false
    msgBytes_row (fun _ h => by cases h) (by kernel_rfl) (fun _ h => by cases h) msgBytes_tied rfl ⟨rfl, rfl⟩ (by kernel_rfl) rfl
    (fun f fn hf hfn => by
      obtain rfl : f = 4 := Option.some.inj ((show Tryz.prog.funcNamed "bruit/bruitlaw34.MsgBytes" = some 4 by kernel_rfl).symm.trans hf) |>.symm
      obtain rfl : fn = Tryz.f4 := (Option.some.inj (Tryz.func4.symm.trans hfn)).symm
      exact ⟨by kernel_rfl, fun j t ht => by
        rw [Tryz.params4] at ht
        have hm : t ∈ [30, 35, 4] := by simpa using Array.mem_of_getElem? ht
        have hall : ([30, 35, 4].all fun u => !Tryz.prog.wantsStandIn u) = true := by kernel_rfl
        exact (show Tryz.prog.wantsStandIn t = false by simpa using List.all_eq_true.1 hall t hm)⟩)
    (by kernel_rfl)
end Go.Proofs.YtdafiipedlglpaaGreatDoor
