/- The law CensusTexts: its row. -/
import Derived.Test.YtihggkmjalofiaaGreatDoorCensusTextsj
namespace Go.Proofs.YtihggkmjalofiaaGreatDoor
open Go.ChangeShapes Go.WideShapes Go.ChangeAt Go.RowKit Go.Deep

theorem censusTexts_row : Rows.CensusTextsSaid :=
 OpenClaim.holds_of_wide 10 Tryz.f10 rfl rfl rfl rfl rfl rfl rfl ⟨rfl, rfl, rfl, rfl, rfl⟩ rfl rfl rfl rfl rfl (by kernel_rfl) Tryz.func10 (by unfold joinedFacts; rw [censusTexts_k1, censusTexts_k2, censusTexts_k3, censusTexts_k4, censusTexts_j1, censusTexts_j2, censusTexts_j3, censusTexts_j4, censusTexts_j5, censusTexts_j6, censusTexts_j7, censusTexts_j8]; kernel_rfl)
  (of_decide_eq_true (by kernel_rfl)) (by unfold Func.isWrapper; first | (rw [if_pos (by decide +kernel)]; kernel_rfl) | (rw [if_neg (by decide +kernel)]; exact ⟨rfl, rfl⟩))
  (fun os started H enc _ => censusTexts_lifted os started H enc)
end Go.Proofs.YtihggkmjalofiaaGreatDoor
