/- Texts of general use, one behind another. -/
import Derived.Test.YtdafiipedlglpaaGreatDoorVids
import Derived.Test.YtdafiipedlglpaaGreatDoorGen
import Derived.Test.YtdafiipedlglpaaGreatDoorSets
import Derived.Deep.RegionHeld3
import Derived.Deep.DeepCutAuto

/- Sets of names: the document's, walked. -/
namespace Go.Proofs.YtdafiipedlglpaaGreatDoor
open Go.RowKit

end Go.Proofs.YtdafiipedlglpaaGreatDoor

/- vid.Set: names of vertices, each once, rising. -/
namespace Go.Proofs.YtdafiipedlglpaaGreatDoor
open Go.RowKit Go.Sort
open Go.ChangeMaps (setBlock)

theorem kLawV : Go.WideMaps.KeyLaw Tryz.prog 98 := deep_law_laid (by kernel_rfl) (m := 3) (by omega) (of_decide_eq_true (by kernel_rfl)) (by kernel_rfl) (by kernel_rfl)
theorem kKeyV (v : VidV) : ∃ kl, keyOf Tryz.prog 98 (.agg (encV v).toArray) = some kl := by
  have h1 := v.1.1.isLt
  have h2 := v.1.2.isLt
  have h3 := v.2.isLt
  have : FlatOk [.int .u8, .int .u16, .int .u8] (encV v) := by
    refine ⟨⟨_, rfl, ?_⟩, ⟨_, rfl, ?_⟩, ⟨_, rfl, ?_⟩, trivial⟩ <;> simp [Lit.wf, IntKind.min, IntKind.max, IntKind.signed, IntKind.bits] <;> omega
  exact keyOf_flat (by kernel_rfl) (by kernel_rfl) (by kernel_rfl) (by kernel_rfl) (of_decide_eq_true (by kernel_rfl)) this
end Go.Proofs.YtdafiipedlglpaaGreatDoor
