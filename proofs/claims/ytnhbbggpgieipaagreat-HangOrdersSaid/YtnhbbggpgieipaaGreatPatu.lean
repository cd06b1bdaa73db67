/- A vertex' name; the chapter's example of patches: walked. -/
import Derived.Test.YtnhbbggpgieipaaGreatPatt
import Derived.Test.YtnhbbggpgieipaaGreatGen
namespace Go.Proofs.YtnhbbggpgieipaaGreat
open Go.RowKit

def vid0 : VidV := ((0, 0), 0)
theorem ops_new (w : World) (l : List OpV) (ho : ∀ o ∈ l, OpV.ok o) : OpsAt (w.alloc (.cells (l.flatMap encO).toArray 78)) (some ⟨w.heap.size, 0, none⟩) l.length l :=
  ⟨rfl, sl_fresh w _ 78 8 l.length _ (flatMap_len encO l (fun o _ => encO_len o)) rfl, ho⟩
end Go.Proofs.YtnhbbggpgieipaaGreat
