/- Names of patches: their texts. -/
import Derived.Test.YtnhbbggpgieipaaPidw
import Derived.Test.YtnhbbggpgieipaaShelf
import Derived.Laws.IdiomStrings
import Derived.Lib.ItoaLen
import Derived.Sort.Grow
namespace Go.Proofs.Ytnhbbggpgieipaa
open Go.RowKit

def dgt (m : Nat) : UInt8 := UInt8.ofNat (48 + m % 10)
theorem str_cons (c : UInt8) (l : List UInt8) : (ByteArray.mk #[c]) ++ ⟨l.toArray⟩ = ⟨(c :: l).toArray⟩ := by
  apply ByteArray.ext
  simp [ByteArray.data_append]

/-- what a name is called -/
def pidText (a s : Nat) : List UInt8 := Lib.itoa a ++ 46 :: Lib.itoa s
theorem str_app (l m : List UInt8) : (ByteArray.mk l.toArray) ++ ⟨m.toArray⟩ = ⟨(l ++ m).toArray⟩ := by
  apply ByteArray.ext
  simp [ByteArray.data_append]
theorem str_dot (l m : List UInt8) : (ByteArray.mk l.toArray) ++ ⟨#[46]⟩ ++ ⟨m.toArray⟩ = ⟨(l ++ 46 :: m).toArray⟩ := by
  apply ByteArray.ext
  simp [ByteArray.data_append]
theorem itoa_len (n : Nat) (h : n < 100000) : (Lib.itoa n).length ≤ 21 := Lib.itoa_length_le n (by omega) (by omega)

open Go.Sort in
theorem below_grown (w : World) (k : Nat) (os : Array Obj) : Below w.heap.size w (grow (w.drewN k) os) :=
  ⟨rfl, rfl, rfl, by simp [grow, World.drewN], fun i hi => by simp only [grow, World.drewN]; rw [Array.getElem?_append_left hi]⟩
abbrev TabOk (w : World) : Prop := Lib.TabIs Try.prog w "internal/strconv.uint64pow10" .u64 Lib.pow10Tab
end Go.Proofs.Ytnhbbggpgieipaa
