/- What is the same has one fingerprint. No condition; the listed tables are tied to the program's text. -/
import Derived.Test.YtihggkmjalofiaaDoorFingerSamek
namespace Go.Proofs.YtihggkmjalofiaaDoor
open Go.ChangeShapes Go.WideShapes Go.ChangeAt Go.RowKit Go.Deep

theorem fingerSame_row : Rows.FingerSameSaid :=
  OpenClaim.holds_of_wide 3 Tryd.f3 rfl rfl rfl rfl rfl rfl rfl ⟨rfl, rfl, rfl, rfl, rfl⟩ rfl rfl rfl rfl rfl (by kernel_rfl) Tryd.func3 (by unfold joinedFacts; rw [fingerSame_k1, fingerSame_k2, fingerSame_k3, fingerSame_k4]; kernel_rfl)
    (of_decide_eq_true (by kernel_rfl)) (by unfold Func.isWrapper; first | (rw [if_pos (by decide +kernel)]; kernel_rfl) | (rw [if_neg (by decide +kernel)]; exact ⟨rfl, rfl⟩))
    (fun os started H enc _ => fingerSame_lifted os started H enc)
theorem fingerSame_tied : Rows.fingerSameRow.laidByTextAt .later Tryd.pinned laidKs true := OpenClaim.laidByTextAt_later rfl rfl tie (by kernel_rfl)
theorem fingerSame_holds : Rows.FingerSameCardSaid :=
  Claim7.holds_tied_plain_at .later [] laidKs true harnessL false
    fingerSame_row (fun _ h => by cases h) (by kernel_rfl) (fun _ h => by cases h) fingerSame_tied rfl ⟨rfl, rfl⟩ (by kernel_rfl) rfl
    (fun f fn hf hfn => by
      obtain rfl : f = 3 := Option.some.inj ((show Tryd.prog.funcNamed "bruit/bruitlaw47.FingerSame" = some 3 by kernel_rfl).symm.trans hf) |>.symm
      obtain rfl : fn = Tryd.f3 := (Option.some.inj (Tryd.func3.symm.trans hfn)).symm
      exact ⟨by kernel_rfl, fun j t ht => by
        rw [Tryd.params3] at ht
        have hm : t ∈ [22, 5] := by simpa using Array.mem_of_getElem? ht
        have hall : ([22, 5].all fun u => !Tryd.prog.wantsStandIn u) = true := by kernel_rfl
        exact (show Tryd.prog.wantsStandIn t = false by simpa using List.all_eq_true.1 hall t hm)⟩)
    (by kernel_rfl)
end Go.Proofs.YtihggkmjalofiaaDoor
