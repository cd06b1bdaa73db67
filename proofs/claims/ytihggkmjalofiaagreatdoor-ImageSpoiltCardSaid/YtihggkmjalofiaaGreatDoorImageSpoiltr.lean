/- The law ImageSpoilt: its row. -/
import Derived.Test.YtihggkmjalofiaaGreatDoorImageSpoiltj
namespace Go.Proofs.YtihggkmjalofiaaGreatDoor
open Go.ChangeShapes Go.WideShapes Go.ChangeAt Go.RowKit Go.Deep

theorem imageSpoilt_row : Rows.ImageSpoiltSaid :=
  OpenClaim.holds_of_wide 5 Tryz.f5 rfl rfl rfl rfl rfl rfl rfl ⟨rfl, rfl, rfl, rfl, rfl⟩ rfl rfl rfl rfl rfl (by kernel_rfl) Tryz.func5 (by unfold joinedFacts; rw [imageSpoilt_k1, imageSpoilt_k2, imageSpoilt_k3, imageSpoilt_k4, imageSpoilt_j1, imageSpoilt_j2, imageSpoilt_j3, imageSpoilt_j4, imageSpoilt_j5, imageSpoilt_j6, imageSpoilt_j7, imageSpoilt_j8]; kernel_rfl)
    (of_decide_eq_true (by kernel_rfl)) (by unfold Func.isWrapper; first | (rw [if_pos (by decide +kernel)]; kernel_rfl) | (rw [if_neg (by decide +kernel)]; exact ⟨rfl, rfl⟩))
    (fun os started H enc _ => imageSpoilt_lifted os started H enc)
end Go.Proofs.YtihggkmjalofiaaGreatDoor
