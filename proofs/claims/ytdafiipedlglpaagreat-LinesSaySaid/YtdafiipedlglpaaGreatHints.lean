/- Texts of general use, one behind another. -/
import Derived.Test.YtdafiipedlglpaaGreatGen
import Derived.Laws.BitsAllLaws
import Derived.IntWalk
import Derived.Test.YtdafiipedlglpaaGreatSets
import Derived.Test.YtdafiipedlglpaaGreatPidw
import Derived.Laws.Shifts
import Derived.Deep.DeepCutAuto

/- A number as its bits: plain laws. No program in sight. -/
namespace Go.Proofs.YtdafiipedlglpaaGreat
open Go.RowKit

end Go.Proofs.YtdafiipedlglpaaGreat

/- A number as its bits, mixed: walked. -/
namespace Go.Proofs.YtdafiipedlglpaaGreat
open Go.RowKit

end Go.Proofs.YtdafiipedlglpaaGreat

/- Numbers mixed: walked. -/
namespace Go.Proofs.YtdafiipedlglpaaGreat
open Go.RowKit

end Go.Proofs.YtdafiipedlglpaaGreat

/- Hints of which patches there are: plain laws. -/
namespace Go.Proofs.YtdafiipedlglpaaGreat
open Go.RowKit

def BlOk (xs : List Nat) : Prop:=xs.length = 4 ∧ ∀ x ∈ xs,x < 18446744073709551616
def Qgt (xs : List Nat) (q : Nat) : List Nat:=xs.set (q / 64) (xs.getD (q / 64) 0 ||| 2 ^ (q % 64))
def Qcc (xs : List Nat) (q : Nat) : Bool:=(xs.getD (q / 64) 0).testBit (q % 64)
theorem getD_set_ne' {xs : List Nat} {i j v : Nat} (h : i ≠ j) : (xs.set i v).getD j 0 = xs.getD j 0:=by
 rw [List.getD_eq_getElem?_getD,List.getD_eq_getElem?_getD,List.getElem?_set_ne h]
theorem getD_set_eq' {xs : List Nat} {i v : Nat} (h : i < xs.length) : (xs.set i v).getD i 0 = v:=by
 rw [List.getD_eq_getElem?_getD,List.getElem?_set_self h]; rfl
theorem getD_lt {xs : List Nat} (h : BlOk xs) (i : Nat) : xs.getD i 0 < 18446744073709551616:=by
 rw [List.getD_eq_getElem?_getD]
 rcases Nat.lt_or_ge i xs.length with h1 | h1
 ·rw [List.getElem?_eq_getElem h1]; exact h.2 _ (List.getElem_mem h1)
 ·rw [List.getElem?_eq_none h1]; decide
end Go.Proofs.YtdafiipedlglpaaGreat

/- Hints of which patches there are: the program's, walked. -/
namespace Go.Proofs.YtdafiipedlglpaaGreat
open Go.RowKit

end Go.Proofs.YtdafiipedlglpaaGreat

/- Hints: a patch put, asked for; the program's, walked. -/
namespace Go.Proofs.YtdafiipedlglpaaGreat
open Go.RowKit

theorem or_bit {y c : Nat} (hy : y < 18446744073709551616) (hc : c < 64) : bits .or .u64 (y : Int) ((2 ^ c : Nat) : Int) = ((y ||| 2 ^ c : Nat) : Int):=
 u64_or_nat y _ hy (show 2 ^ c < 2 ^ 64 from Nat.pow_lt_pow_right (by omega) hc)
theorem wrap_pow {c : Nat} (hc : c < 64) : IntKind.u64.wrap (2 ^ c) = ((2 ^ c : Nat) : Int):=by
 have h1 : 2 ^ c < 2 ^ 64:=Nat.pow_lt_pow_right (by omega) hc
 have e : (2 : Int) ^ c = ((2 ^ c : Nat) : Int):=by simp
 rw [e]
 generalize 2 ^ c = z at h1
 exact IntWalk.u64_in _ (by omega)
theorem or_run {y c : Nat} (hy : y < 18446744073709551616) (hc : c < 64) (w : World) : (binOp .or 164 (.int .u64 (y : Int)) (.int .u64 ((2 ^ c : Nat) : Int))).run Tryz.prog w = .ok (.int .u64 ((y ||| 2 ^ c : Nat) : Int)) w:=by
 rw [← or_bit hy hc]
 simp [go_sem]
theorem Qbb {P : Program} {ops : Array Oper} {rest : List Oper} {a : Act} {w : World} {Q : Exit → Act → World → Prop} {d : Option Tmp} {ty t rt : TypeId} {pos : String} {after : Array Edge} {op : BinOp} {x y : Operand} {xv yv v : Value} (hx : a.eval x = xv) (hy : a.eval y = yv) (hg : (eqGuard op t x y xv yv).run P w = .ok () w) (hr : (binOp op t xv yv).run P w = .ok v w)
  (h : wpList P ops Q rest (a.put d v) w) : wpList P ops Q (⟨d,.binOp op t x y rt,ty,pos,after,none⟩ :: rest) a w:=
 wpList_plain rfl fun _ hK => Qdp hx hy hg hr (hK _ _ h)
theorem store64_run (g i y : Nat) (w : World) {u : Value} (h : w.cell? ⟨g,i,none⟩ = some u) (hf : w.frozen? ⟨g,i,none⟩ = false) : (Instr.storeAt 164 (.pointer (some ⟨g,i,none⟩)) (.int .u64 (y : Int))).run Tryz.prog w = .ok () (w.setCell ⟨g,i,none⟩ (.int .u64 (y : Int))):=by simp [go_sem,h,hf]
section
variable {P : Program} {ops : Array Oper} {rest : List Oper} {a : Act} {w w' : World} {Q : Exit → Act → World → Prop} {d : Option Tmp} {ty t s : TypeId} {pos : String} {after : Array Edge} {x y : Operand} {pv iv v : Value}
theorem wpList_st (hx : a.eval x = pv) (hy : a.eval y = v) (hr : (Instr.storeAt s pv v).run P w = .ok () w') (h : wpList P ops Q rest a w') : wpList P ops Q (⟨none,.store s x y,ty,pos,after,none⟩ :: rest) a w:=
 wpList_plain rfl fun _ hK => by
  unfold Oper.wp execOp
  simp only [hx,hy,Sem.run_bind,hr,Result.andThen_ok,Sem.run_pure]
  exact hK _ _ h
end
end Go.Proofs.YtdafiipedlglpaaGreat

/- Hints: the document's, walked. -/
namespace Go.Proofs.YtdafiipedlglpaaGreat
open Go.RowKit

end Go.Proofs.YtdafiipedlglpaaGreat

/- Hints: the document's asking; a hint of patches: walked. -/
namespace Go.Proofs.YtdafiipedlglpaaGreat
open Go.RowKit

end Go.Proofs.YtdafiipedlglpaaGreat

/- Hints: the hint of patches, walked. -/
namespace Go.Proofs.YtdafiipedlglpaaGreat
open Go.RowKit

end Go.Proofs.YtdafiipedlglpaaGreat
