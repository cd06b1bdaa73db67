/- Texts of general use, one behind another. -/
import Derived.Test.YtdafiipedlglpaaDoorBufs

/- The reference's numbers as bytes: walked. -/
namespace Go.Proofs.YtdafiipedlglpaaDoor
open Go.RowKit

end Go.Proofs.YtdafiipedlglpaaDoor

/- The reference's reading of a number: walked. -/
namespace Go.Proofs.YtdafiipedlglpaaDoor
open Go.RowKit

/-- the number of its groups of seven bits -/
def hv : List UInt8 → Nat
  | [] => 0
  | x :: t => x.toNat % 128 + 128 * hv t
end Go.Proofs.YtdafiipedlglpaaDoor

/- The reference's reader: a byte, a number, the end: walked. -/
namespace Go.Proofs.YtdafiipedlglpaaDoor
open Go.RowKit

end Go.Proofs.YtdafiipedlglpaaDoor

/- The reference's reader: a text: walked. -/
namespace Go.Proofs.YtdafiipedlglpaaDoor
open Go.RowKit

theorem run_slice_mid {P : Program} {t e : TypeId} {size bytes : Nat} (T : SlT P t e size bytes) {A : Option Addr} {n c lo hi : Nat} (h1 : lo ≤ hi) (h2 : hi ≤ c) (w : World) :
    (Instr.sliceAt t (.slice A n c) (some (.int .i64 lo)) (some (.int .i64 hi)) none).run P w = .ok (.slice (cutAddr A c lo size) (hi - lo) (c - lo)) w := by
  obtain ⟨i, z, hi', hz, hsz, hby, hzs⟩ := T.hi
  simp [Instr.sliceAt, Instr.slice, run_underlying T.ht, Instr.sliceBounds, Instr.sliceBound, asIntOf, sizeOf, typeInfo, hi', hsz, cutAddr]
  rw [if_pos h2, if_pos h1]
theorem Sl.less {w : World} {B n k : Nat} {A : Option Addr} {l : List UInt8} (h : Sl w B 1 A n (encB l)) (hn : l.length = n) (hk : k ≤ n) : Sl w B 1 A k (encB (l.take k)) := by
  have hl : (l.take k).length = k := by rw [List.length_take]; omega
  refine ⟨by rw [encB_len, hl, Nat.mul_one], fun hp => ?_⟩
  obtain ⟨b, o, rfl, hb, hcell⟩ := h.2 (by omega)
  refine ⟨b, o, rfl, hb, fun j hj => ?_⟩
  rw [hcell _ (by omega), encB_at, encB_at, List.getElem?_take_of_lt (by omega)]
end Go.Proofs.YtdafiipedlglpaaDoor
