/- The reference's decoding of a patch: walked. -/
import Derived.Test.YtdafiipedlglpaaGreatDoorRpg
import Derived.Test.YtdafiipedlglpaaGreatDoorGen
import Derived.Test.YtdafiipedlglpaaGreatDoorIdxw
namespace Go.Proofs.YtdafiipedlglpaaGreatDoor
open Go.RowKit

theorem fieldPat3 (g : Nat) (w : World) : (Instr.fieldAt 64 (.pointer (some ⟨g, 0, none⟩)) 2).run Tryz.prog w = .ok (.pointer (some ⟨g, 3, none⟩)) w := by simp [go_sem]
theorem loadOpsR (b o : Nat) (w : World) (A : Option Addr) (n c : Nat) (h : w.cell? ⟨b, o, none⟩ = some (.slice A n c)) : (Instr.loadAt 62 (.pointer (some ⟨b, o, none⟩))).run Tryz.prog w = .ok (.slice A n c) w := by simp [go_sem, h]
theorem storeOpsR (b o : Nat) (w : World) (A : Option Addr) (n c : Nat) {u : Value} (h : w.cell? ⟨b, o, none⟩ = some u) (hf : w.frozen? ⟨b, o, none⟩ = false) : (Instr.storeAt 62 (.pointer (some ⟨b, o, none⟩)) (.slice A n c)).run Tryz.prog w = .ok () (w.setCell ⟨b, o, none⟩ (.slice A n c)) := by simp [go_sem, h, hf]
theorem buildRd (w : World) (A : Option Addr) (n c : Nat) : (Instr.build 146 #[(0, .slice A n c)]).run Tryz.prog w = .ok (.agg #[.slice A n c, .int .i64 0]) w := by kernel_rfl
theorem RrAt.belowR {w w' : World} {B g e C : Nat} {l : List UInt8} (h : RrAt w B g l e) (hb : Below C w w') (hC : g < C) : RrAt w' B g l e := by
  obtain ⟨A, c, h1, h2, h3, h4⟩ := h.ex
  exact ⟨h.ge, A, c, h1.below hb hC, h2, h3, h4.below hb (by have := h.ge; omega)⟩
end Go.Proofs.YtdafiipedlglpaaGreatDoor
