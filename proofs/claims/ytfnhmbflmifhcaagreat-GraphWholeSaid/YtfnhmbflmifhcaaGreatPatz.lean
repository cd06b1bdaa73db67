/- WHAT A PATCH NAMES COMES AHEAD: the plain law, and the statement walked. -/
import Derived.Test.YtfnhmbflmifhcaaGreatPatx
namespace Go.Proofs.YtfnhmbflmifhcaaGreat
open Go.RowKit

theorem patB_parts {p : PatV} (h : patB p = true) : p.2.1 = depsV p.1 p.2.2 ∧ 1 ≤ p.2.2.length ∧ p.2.2.length ≤ 200 ∧ ∀ (k : Nat) o, p.2.2[k]? = some o → oneR p k o = true := by
  rw [patB_head, Bool.and_eq_true] at h
  have h1 := h.1
  unfold headB at h1
  simp only [Bool.and_eq_true, decide_eq_true_eq] at h1
  exact ⟨h1.2.2.2, h1.2.1, h1.2.2.1, fun k o ho => onesB_get h.2 (List.getElem?_eq_some_iff.1 ho).1 ho⟩
theorem oneR_parts {p : PatV} {k : Nat} {o : OpV} (h : oneR p k o = true) : goodO p.1 k o = true ∧ ∀ v ∈ refsO o, isLater p.1 v = false := by
  unfold oneR at h
  simp only [Bool.and_eq_true, Bool.not_eq_true'] at h
  exact ⟨h.1, fun v hv => by
    have := List.any_eq_false.1 h.2.1 v hv
    simpa using this⟩
end Go.Proofs.YtfnhmbflmifhcaaGreat
