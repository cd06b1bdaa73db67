/- Whether the vertices that an operation names are of the kinds that it takes: walked. -/
import Derived.Test.YtnhbbggpgieipaaKinds
import Derived.Deep.DeepCutAuto
namespace Go.Proofs.Ytnhbbggpgieipaa
open Go.RowKit

theorem underPat : Try.prog.underlying 45 = some (.struct (Try.prog.fieldsOf 45)) := by kernel_rfl
end Go.Proofs.Ytnhbbggpgieipaa
