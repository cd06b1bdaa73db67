/- Patches made: walked. -/
import Derived.Test.YtnhbbggpgieipaaGreatPats
import Derived.Test.YtnhbbggpgieipaaGreatGen
namespace Go.Proofs.YtnhbbggpgieipaaGreat
open Go.RowKit

def zeroPat : PatV := ((0, 0), [], [])
theorem allocPat (w : World) : (Instr.alloc 37 true (.tuple #[])).run Tryz.prog w = .ok (.pointer (some ⟨w.heap.size, 0, none⟩)) (w.alloc (.cells #[.int .u8 0, .int .u16 0, .slice none 0 0, .slice none 0 0] 37)) := by kernel_rfl
theorem patC_one {id : PidV} {A : Option Addr} {n c : Nat} {A' : Option Addr} {n' c' : Nat} : (patC id A n c A' n' c').toArray.all (·.oneCell') = true := all_oneCell_toArray fun u hu => by
  simp only [patC, List.mem_cons, List.not_mem_nil, or_false] at hu
  rcases hu with rfl | rfl | rfl | rfl <;> rfl
theorem zeroC_one : (#[.int .u8 0, .int .u16 0, .slice none 0 0, .slice none 0 0] : Array Value).all (·.oneCell') = true := patC_one (id := (0, 0)) (A := none) (n := 0) (c := 0) (A' := none) (n' := 0) (c' := 0)
theorem depsV_le (id : PidV) (l : List OpV) : (depsV id l).length ≤ 1 + 2 * l.length := Nat.le_trans (setK_len _) (rawDeps_le id l)
end Go.Proofs.YtnhbbggpgieipaaGreat
