/- Whether a patch may be: the program's, walked. -/
import Derived.Test.YtnhbbggpgieipaaPatr
import Derived.Test.YtnhbbggpgieipaaPatf
import Derived.Test.YtnhbbggpgieipaaGen
namespace Go.Proofs.Ytnhbbggpgieipaa
open Go.RowKit
open Go.ChangeMaps (setBlock)

theorem lit_u8 (v : Fin 256) : (Lit.int .u8 ((v.val : Nat) : Int)).wf = true := by
  have := v.isLt
  simp [Lit.wf, IntKind.min, IntKind.max, IntKind.signed, IntKind.bits]; omega
theorem lit_u16 (v : Fin 65536) : (Lit.int .u16 ((v.val : Nat) : Int)).wf = true := by
  have := v.isLt
  simp [Lit.wf, IntKind.min, IntKind.max, IntKind.signed, IntKind.bits]; omega
end Go.Proofs.Ytnhbbggpgieipaa
