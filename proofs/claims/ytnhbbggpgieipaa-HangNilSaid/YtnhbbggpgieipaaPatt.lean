/- Patches made: walked. -/
import Derived.Test.YtnhbbggpgieipaaPats
import Derived.Test.YtnhbbggpgieipaaGen
namespace Go.Proofs.Ytnhbbggpgieipaa
open Go.RowKit

def zeroPat : PatV := ((0, 0), [], [])
def makeV18 (id : PidV) (l : List OpV) : PatV := if patB (id, depsV id l, l) = true then (id, depsV id l, l) else zeroPat
def makeN18 (id : PidV) (l : List OpV) : Int := if patB (id, depsV id l, l) = true then 0 else 1
def MadeRet (w : World) (q : PatV) (n : Int) (e : Ending) (w' : World) : Prop := ∃ cs : List Value, e = .returned (.tuple #[.agg cs.toArray, .int .i64 n]) ∧ PatAt w' cs q ∧ Below w.heap.size w w'
theorem zero_at (w : World) : PatAt w [.int .u8 0, .int .u16 0, .slice none 0 0, .slice none 0 0] zeroPat :=
  ⟨⟨none, 0, none, 0, rfl, ⟨rfl, rfl, fun h => absurd h (by decide)⟩, ⟨rfl, ⟨rfl, fun h => absurd h (by decide)⟩, by simp [zeroPat]⟩⟩, by decide, by decide⟩
theorem allocPat (w : World) : (Instr.alloc 45 true (.tuple #[])).run Try.prog w = .ok (.pointer (some ⟨w.heap.size, 0, none⟩)) (w.alloc (.cells #[.int .u8 0, .int .u16 0, .slice none 0 0, .slice none 0 0] 45)) := by kernel_rfl
theorem buildPat (id : PidV) (A : Option Addr) (n c : Nat) (A' : Option Addr) (n' c' : Nat) (w : World) : (Instr.build 45 #[(0, .agg (encP id).toArray), (1, .slice A n c), (2, .slice A' n' c')]).run Try.prog w = .ok (.agg (patC id A n c A' n' c').toArray) w := by kernel_rfl
theorem buildZero (w : World) : (Instr.build 45 #[]).run Try.prog w = .ok (.agg #[.int .u8 0, .int .u16 0, .slice none 0 0, .slice none 0 0]) w := by kernel_rfl
theorem patC_one {id : PidV} {A : Option Addr} {n c : Nat} {A' : Option Addr} {n' c' : Nat} : (patC id A n c A' n' c').toArray.all (·.oneCell') = true := all_oneCell_toArray fun u hu => by
  simp only [patC, List.mem_cons, List.not_mem_nil, or_false] at hu
  rcases hu with rfl | rfl | rfl | rfl <;> rfl
theorem zeroC_one : (#[.int .u8 0, .int .u16 0, .slice none 0 0, .slice none 0 0] : Array Value).all (·.oneCell') = true := patC_one (id := (0, 0)) (A := none) (n := 0) (c := 0) (A' := none) (n' := 0) (c' := 0)
theorem depsV_le (id : PidV) (l : List OpV) : (depsV id l).length ≤ 1 + 2 * l.length := Nat.le_trans (setK_len _) (rawDeps_le id l)
theorem pat_at {w : World} {id : PidV} {l : List OpV} {A A' : Option Addr} {c c' n : Nat} (h1 : PidsAt w A (depsV id l).length (depsV id l)) (h2 : OpsAt w A' n l) (hn : n ≤ 300) : PatAt w (patC id A (depsV id l).length c A' n c') (id, depsV id l, l) := by
  have e := h2.len
  subst e
  exact ⟨⟨A, c, A', c', rfl, h1, h2⟩, by have := depsV_le id l; unfold maxLen; show (depsV id l).length ≤ _; omega, by unfold maxLen; show l.length ≤ _; omega⟩
end Go.Proofs.Ytnhbbggpgieipaa
