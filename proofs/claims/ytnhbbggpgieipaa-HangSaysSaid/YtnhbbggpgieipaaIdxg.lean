/- An index made of patches; what any vector lacks, by the document: walked. -/
import Derived.Test.YtnhbbggpgieipaaIdxf
import Derived.Test.YtnhbbggpgieipaaVrefs
namespace Go.Proofs.Ytnhbbggpgieipaa
open Go.RowKit

theorem fews_at {l : List PatV} {m : Int} (h : fewsB l m = true) : (l.length : Int) ≤ m ∧ ∀ p ∈ l, p.2.1.length ≤ 100 ∧ p.2.2.length ≤ 60 := by
  unfold fewsB at h
  rw [Bool.and_eq_true, decide_eq_true_eq, List.all_eq_true] at h
  refine ⟨h.1, fun p hp => ?_⟩
  have := h.2 p hp
  unfold fewOne fewP at this
  simp only [Bool.and_eq_true, decide_eq_true_eq] at this
  exact ⟨this.1.1, this.2⟩
end Go.Proofs.Ytnhbbggpgieipaa
