/- A vertex' name; the chapter's example of patches: walked. -/
import Derived.Test.YtnhbbggpgieipaaPatt
import Derived.Test.YtnhbbggpgieipaaGen
namespace Go.Proofs.Ytnhbbggpgieipaa
open Go.RowKit

def vidOf (id : PidV) (i : Int) : VidV := (id, ⟨(i % 256).toNat, by omega⟩)
theorem vidOf_enc (id : PidV) (i : Int) : encV (vidOf id i) = [.int .u8 ((id.1.val : Nat) : Int), .int .u16 ((id.2.val : Nat) : Int), .int .u8 (i % 256)] := by
  have : (((i % 256).toNat : Nat) : Int) = i % 256 := by omega
  simp [encV, vidOf, this]
def w18a : PidV := (1, 1)
def w18b : PidV := (1, 2)
def vid0 : VidV := ((0, 0), 0)
def w18x : OpV := (1, vid0, vid0, ByteArray.empty)
def w18y : OpV := (3, (w18a, 0), vid0, ByteArray.empty)
theorem w18_first : makeV18 w18a [w18x, w18y] = (w18a, [], [w18x, w18y]) ∧ makeN18 w18a [w18x, w18y] = 0 := ⟨by kernel_rfl, by kernel_rfl⟩
theorem w18_next : makeV18 w18b [w18y] = (w18b, [w18a], [w18y]) ∧ makeN18 w18b [w18y] = 0 := ⟨by kernel_rfl, by kernel_rfl⟩
theorem w18_good : patB (w18b, [w18a], [w18y]) = true := by kernel_rfl
theorem ops_new (w : World) (l : List OpV) (ho : ∀ o ∈ l, OpV.ok o) : OpsAt (w.alloc (.cells (l.flatMap encO).toArray 60)) (some ⟨w.heap.size, 0, none⟩) l.length l :=
  ⟨rfl, sl_fresh w _ 60 8 l.length _ (flatMap_len encO l (fun o _ => encO_len o)) rfl, ho⟩
end Go.Proofs.Ytnhbbggpgieipaa
