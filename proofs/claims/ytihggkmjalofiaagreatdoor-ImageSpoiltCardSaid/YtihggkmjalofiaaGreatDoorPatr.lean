/- Whether a patch may be: the document's, walked. -/
import Derived.Test.YtihggkmjalofiaaGreatDoorPatq
import Derived.Deep.RegionHeld3
namespace Go.Proofs.YtihggkmjalofiaaGreatDoor
open Go.RowKit

def headB (p : PatV) : Bool := pidOk ((p.1.1.val : Nat) : Int) ((p.1.2.val : Nat) : Int) && (decide (1 ≤ p.2.2.length) && (decide (p.2.2.length ≤ 200) && decide (p.2.1 = depsV p.1 p.2.2)))
theorem patB_head (p : PatV) : patB p = (headB p && onesB p p.2.2.length) := by
  unfold patB headB
  simp only [Bool.and_assoc]
theorem headB_len {p : PatV} (h : headB p = true) : p.2.2.length ≤ 200 := by
  unfold headB at h
  simp only [Bool.and_eq_true, decide_eq_true_eq] at h
  exact h.2.2.1
theorem u16_in (v : Fin 65536) : 0 ≤ ((v.val : Nat) : Int) ∧ ((v.val : Nat) : Int) < 65536 := ⟨by omega, by have := v.isLt; omega⟩
theorem ret_drewn {w w' : World} (h : ∃ n, w' = w.drewN n) : Below w.heap.size w w' := by obtain ⟨n, rfl⟩ := h; exact below_drewN (Below.refl _ _) _
end Go.Proofs.YtihggkmjalofiaaGreatDoor
