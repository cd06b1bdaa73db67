/- Regions that draw their order and whose operations keep a condition on the world: one walk in the order of the text. No program in sight but as a variable. -/
import Derived.Test.YtnhbbggpgieipaaIdxw
namespace Go.Proofs.Ytnhbbggpgieipaa
open Go.RowKit

/-- the worlds that meet C -/
structure Sub (C : World → Prop) where
  w : World
  h : C w
theorem wp_region_sub {P : Program} {id : Nat} {Q : Exit → Act → World → Prop} {a : Act} {w : World} {l : List Oper} (C : World → Prop) (hm : P.follows .mixedOrders = true) (hB : Region.lexB .any l.toArray = true) (hC : C w.drew)
    (h : wpQuiet P l.toArray (fun w' => ∃ z : Sub C, w' = z.w) (fun a' => ∀ w', (∃ z : Sub C, w' = z.w) → Q .normal a' w') l a) : (Code.region id l.toArray true).wp P Q a w :=
  wp_region_quiet (C := fun w' => ∃ z : Sub C, w' = z.w) hm hB ⟨⟨_, hC⟩, rfl⟩ (by simpa using h)
theorem sub_call {P : Program} {f : FuncId} {args : Array Value} {C : World → Prop} {z : Sub C} {v : Value}
    (h : Calls P f args z.w fun e w' => e = .returned v ∧ C w') : Calls P f args z.w fun e w'' => e = .returned v ∧ ∃ z' : Sub C, w'' = z'.w :=
  h.mono fun _ w' ⟨he, hc⟩ => ⟨he, ⟨w', hc⟩, rfl⟩
end Go.Proofs.Ytnhbbggpgieipaa
