/- The document's graph: an error: walked. -/
import Derived.Test.YtfnhmbflmifhcaaGreatRgs
import Derived.Test.YtfnhmbflmifhcaaGreatGrns
import Derived.Test.YtfnhmbflmifhcaaGreatVrefs
import Derived.Test.YtfnhmbflmifhcaaGreatZmob
import Derived.Test.YtfnhmbflmifhcaaGreatIdxy
namespace Go.Proofs.YtfnhmbflmifhcaaGreat
open Go.RowKit

theorem blk_not_own {w : World} {g base size n : Nat} {t e : TypeId} {cs : Array Value} {v : Value} {xs : List Value} (K : Blk w g t cs) (ht : t ≠ e) (h : w.ownsRow base e size v n xs) : ¬ v.ownBlock = some g := fun e' => by
  obtain ⟨cur, hc⟩ := own_type h e'
  unfold Blk at K
  rw [K] at hc
  injection hc with hc
  injection hc with _ h2 _
  exact ht h2
theorem sl_lit {w : World} {g size : Nat} {t : TypeId} {cs : List Value} (K : Blk w g t cs.toArray) (hl : cs.length = size) : Sl w w.heap.size size (some ⟨g, 0, none⟩) 1 cs :=
  ⟨by rw [hl, Nat.one_mul], fun _ => ⟨g, 0, rfl, K.lt, fun j _ => by rw [Nat.zero_add, K.cell]; simp⟩⟩
section
variable {A : List PatV} {o : OpV}
end
end Go.Proofs.YtfnhmbflmifhcaaGreat
