/- vid.Set: names of vertices, each once, rising. -/
import Derived.Test.YtfnhmbflmifhcaaGreatSetgV
import Derived.Test.YtfnhmbflmifhcaaGreatSets
import Derived.Test.YtfnhmbflmifhcaaGreatGen
import Derived.Deep.RegionHeld3
import Derived.Deep.DeepCutAuto
namespace Go.Proofs.YtfnhmbflmifhcaaGreat
open Go.RowKit Go.Sort
open Go.ChangeMaps (setBlock)

theorem kLawV : Go.WideMaps.KeyLaw Tryz.prog 43 := deep_law_laid (by kernel_rfl) (m := 3) (by omega) (of_decide_eq_true (by kernel_rfl)) (by kernel_rfl) (by kernel_rfl)
theorem kKeyV (v : VidV) : ∃ kl, keyOf Tryz.prog 43 (.agg (encV v).toArray) = some kl := by
  have h1 := v.1.1.isLt
  have h2 := v.1.2.isLt
  have h3 := v.2.isLt
  have : FlatOk [.int .u8, .int .u16, .int .u8] (encV v) := by
    refine ⟨⟨_, rfl, ?_⟩, ⟨_, rfl, ?_⟩, ⟨_, rfl, ?_⟩, trivial⟩ <;> simp [Lit.wf, IntKind.min, IntKind.max, IntKind.signed, IntKind.bits] <;> omega
  exact keyOf_flat (by kernel_rfl) (by kernel_rfl) (by kernel_rfl) (by kernel_rfl) (of_decide_eq_true (by kernel_rfl)) this
end Go.Proofs.YtfnhmbflmifhcaaGreat
