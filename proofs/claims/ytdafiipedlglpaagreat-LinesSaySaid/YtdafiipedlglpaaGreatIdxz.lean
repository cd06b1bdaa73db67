/- Texts of general use, one behind another. -/
import Derived.Test.YtdafiipedlglpaaGreatIdxw
import Derived.Test.YtdafiipedlglpaaGreatVrefs

/- An index: a patch that is put: walked. -/
namespace Go.Proofs.YtdafiipedlglpaaGreat
open Go.RowKit
open Go.ChangeMaps (setBlock)

theorem allocPI (w : World) : (Instr.alloc 25 true (.tuple #[])).run Tryz.prog w = .ok (.pointer (some ⟨w.heap.size,0,none⟩)) (w.alloc (.cells #[.int .u8 0,.int .u16 0] 25)):=by kernel_rfl
theorem Qgv {v : List Int} (hv : VecOk v) : (Tryz.prog.info? 109).map (·.size) = some (v.map (Value.int .u16)).length:=by rw [List.length_map,hv.len]; exact Qcl
theorem fieldPat0 (g : Nat) (w : World) : (Instr.fieldAt 64 (.pointer (some ⟨g,0,none⟩)) 0).run Tryz.prog w = .ok (.pointer (some ⟨g,0,none⟩)) w:=by simp [go_sem]
theorem blk_vec {w : World} {g : Nat} {t : TypeId} {v : List Int} (h : Blk w g t (vecA v)) : w.rangeAt g 0 (v.map (Value.int .u16)):=by
 intro j u hj
 rw [Nat.zero_add,h.cell j]
 unfold vecA
 simpa using hj
theorem Qau {w : World} {g : Nat} {t : TypeId} {cs : List Value} (h : Blk w g t cs.toArray) : w.rangeAt g 0 cs:=by
 intro j u hj
 rw [Nat.zero_add,h.cell j]
 simpa using hj
end Go.Proofs.YtdafiipedlglpaaGreat

/- An index made of patches; what any vector lacks, by the document: walked. -/
namespace Go.Proofs.YtdafiipedlglpaaGreat
open Go.RowKit

end Go.Proofs.YtdafiipedlglpaaGreat

/- Regions that draw their order and whose operations keep a condition on the world: one walk in the order of the text. No program in sight but as a variable. -/
namespace Go.Proofs.YtdafiipedlglpaaGreat
open Go.RowKit

end Go.Proofs.YtdafiipedlglpaaGreat

/- The chapter's example of an index: walked. -/
namespace Go.Proofs.YtdafiipedlglpaaGreat
open Go.RowKit

end Go.Proofs.YtdafiipedlglpaaGreat

/- The document's index: a patch by its name; which there are: walked. -/
namespace Go.Proofs.YtdafiipedlglpaaGreat
open Go.RowKit

end Go.Proofs.YtdafiipedlglpaaGreat

/- Who lacks some can put the first one at once, and then all, in order: walked. -/
namespace Go.Proofs.YtdafiipedlglpaaGreat
open Go.RowKit

end Go.Proofs.YtdafiipedlglpaaGreat
