/- The law FingerTurns: its row. -/
import Derived.Test.YtihggkmjalofiaaGreatDoorFingerTurnsj
namespace Go.Proofs.YtihggkmjalofiaaGreatDoor
open Go.ChangeShapes Go.WideShapes Go.ChangeAt Go.RowKit Go.Deep

theorem fingerTurns_row : Rows.FingerTurnsSaid :=
  OpenClaim.holds_of_wide 3 Tryz.f3 rfl rfl rfl rfl rfl rfl rfl ⟨rfl, rfl, rfl, rfl, rfl⟩ rfl rfl rfl rfl rfl (by kernel_rfl) Tryz.func3 (by unfold joinedFacts; rw [fingerTurns_k1, fingerTurns_k2, fingerTurns_k3, fingerTurns_k4, fingerTurns_j1, fingerTurns_j2, fingerTurns_j3, fingerTurns_j4, fingerTurns_j5, fingerTurns_j6, fingerTurns_j7, fingerTurns_j8]; kernel_rfl)
    (of_decide_eq_true (by kernel_rfl)) (by unfold Func.isWrapper; first | (rw [if_pos (by decide +kernel)]; kernel_rfl) | (rw [if_neg (by decide +kernel)]; exact ⟨rfl, rfl⟩))
    (fun os started H enc _ => fingerTurns_lifted os started H enc)
end Go.Proofs.YtihggkmjalofiaaGreatDoor
