/- Texts of general use, one behind another. -/
import Derived.Test.YtihggkmjalofiaaGreatDoorGen
import Derived.Laws.BitsAllLaws
import Derived.IntWalk
import Derived.Test.YtihggkmjalofiaaGreatDoorSets
import Derived.Test.YtihggkmjalofiaaGreatDoorPidw
import Derived.Laws.Shifts
import Derived.Deep.DeepCutAuto

/- A number as its bits: plain laws. No program in sight. -/
namespace Go.Proofs.YtihggkmjalofiaaGreatDoor
open Go.RowKit

/-- 64 bits, by their places -/
def bl (f : Nat → Bool) : List Bool := (List.range 64).map f
end Go.Proofs.YtihggkmjalofiaaGreatDoor

/- A number as its bits, mixed: walked. -/
namespace Go.Proofs.YtihggkmjalofiaaGreatDoor
open Go.RowKit

end Go.Proofs.YtihggkmjalofiaaGreatDoor

/- Numbers mixed: walked. -/
namespace Go.Proofs.YtihggkmjalofiaaGreatDoor
open Go.RowKit

end Go.Proofs.YtihggkmjalofiaaGreatDoor

/- Hints of which patches there are: plain laws. -/
namespace Go.Proofs.YtihggkmjalofiaaGreatDoor
open Go.RowKit

end Go.Proofs.YtihggkmjalofiaaGreatDoor

/- Hints of which patches there are: the program's, walked. -/
namespace Go.Proofs.YtihggkmjalofiaaGreatDoor
open Go.RowKit

end Go.Proofs.YtihggkmjalofiaaGreatDoor

/- Hints: a patch put, asked for; the program's, walked. -/
namespace Go.Proofs.YtihggkmjalofiaaGreatDoor
open Go.RowKit

theorem wpList_comp {P : Program} {ops : Array Oper} {rest : List Oper} {a : Act} {w : World} {Q : Exit → Act → World → Prop} {d : Option Tmp} {ty t rt : TypeId} {pos : String} {after : Array Edge} {op : BinOp} {x y : Operand} {xv yv v : Value} (hx : a.eval x = xv) (hy : a.eval y = yv) (hg : (eqGuard op t x y xv yv).run P w = .ok () w) (hr : (binOp op t xv yv).run P w = .ok v w)
    (h : wpList P ops Q rest (a.put d v) w) : wpList P ops Q (⟨d, .binOp op t x y rt, ty, pos, after, none⟩ :: rest) a w :=
  wpList_plain rfl fun _ hK => wp_computed hx hy hg hr (hK _ _ h)
section
variable {P : Program} {ops : Array Oper} {rest : List Oper} {a : Act} {w w' : World} {Q : Exit → Act → World → Prop} {d : Option Tmp} {ty t s : TypeId} {pos : String} {after : Array Edge} {x y : Operand} {pv iv v : Value}
theorem wpList_st (hx : a.eval x = pv) (hy : a.eval y = v) (hr : (Instr.storeAt s pv v).run P w = .ok () w') (h : wpList P ops Q rest a w') : wpList P ops Q (⟨none, .store s x y, ty, pos, after, none⟩ :: rest) a w :=
  wpList_plain rfl fun _ hK => by
    unfold Oper.wp execOp
    simp only [hx, hy, Sem.run_bind, hr, Result.andThen_ok, Sem.run_pure]
    exact hK _ _ h
end
end Go.Proofs.YtihggkmjalofiaaGreatDoor

/- Hints: the document's, walked. -/
namespace Go.Proofs.YtihggkmjalofiaaGreatDoor
open Go.RowKit

end Go.Proofs.YtihggkmjalofiaaGreatDoor

/- Hints: the document's asking; a hint of patches: walked. -/
namespace Go.Proofs.YtihggkmjalofiaaGreatDoor
open Go.RowKit

end Go.Proofs.YtihggkmjalofiaaGreatDoor

/- Hints: the hint of patches, walked. -/
namespace Go.Proofs.YtihggkmjalofiaaGreatDoor
open Go.RowKit

end Go.Proofs.YtihggkmjalofiaaGreatDoor
