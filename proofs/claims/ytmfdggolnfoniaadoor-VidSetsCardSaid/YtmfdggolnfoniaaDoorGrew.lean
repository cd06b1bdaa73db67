/- Worlds that have only more than another one, blocks and draws; regions that draw their order and whose calls make only such. No program in sight but as a variable. -/
import Derived.Test.YtmfdggolnfoniaaDoorQuiet
import Derived.Sort.Grow
namespace Go.Proofs.YtmfdggolnfoniaaDoor
open Go.RowKit

structure Grew (w w' : World) : Prop where
  below : Below w.heap.size w w'
  drawn : w.drawn ≤ w'.drawn
theorem Grew.refl (w : World) : Grew w w := ⟨Below.refl _ _, Nat.le_refl _⟩
theorem Grew.trans {a b c : World} (h : Grew a b) (k : Grew b c) : Grew a c := ⟨ext_trans h.below k.below, Nat.le_trans h.drawn k.drawn⟩
theorem Grew.alloc {a b : World} (h : Grew a b) (o : Obj) : Grew a (b.alloc o) := ⟨h.below.alloc h.below.size _, h.drawn⟩
theorem Grew.drew {a b : World} (h : Grew a b) : Grew a b.drew := ⟨h.below.drew, Nat.le_succ_of_le h.drawn⟩
theorem Grew.drewN {a b : World} (h : Grew a b) (n : Nat) : Grew a (b.drewN n) := ⟨below_drewN h.below n, Nat.le_trans h.drawn (Nat.le_add_right _ _)⟩
theorem Grew.grow {w w' : World} (h : Grew w w') : ∃ q os, w' = Go.Sort.grow (w.drewN q) os := by
  refine ⟨w'.drawn - w.drawn, w'.heap.extract w.heap.size w'.heap.size, ?_⟩
  have hh : w'.heap = w.heap ++ w'.heap.extract w.heap.size w'.heap.size := by
    apply Array.ext_getElem?
    intro k
    rw [Array.getElem?_append]
    split
    · rename_i hk; exact h.below.block k hk
    · rename_i hk
      rw [Array.getElem?_extract]
      have := h.below.size
      split
      · congr 1; omega
      · rw [Array.getElem?_eq_none]; omega
  obtain ⟨heap, tape, drawn, os, output⟩ := w
  obtain ⟨heap', tape', drawn', os', output'⟩ := w'
  have h1 := h.below.os
  have h2 := h.below.tape
  have h3 := h.below.output
  have h4 := h.drawn
  simp only at h1 h2 h3 h4 hh
  subst h1 h2 h3
  simp only [Go.Sort.grow, World.drewN, World.mk.injEq, and_true, true_and]
  exact ⟨hh, by omega⟩
def RetG (w : World) (v : Value) (e : Ending) (w' : World) : Prop := e = .returned v ∧ Grew w w'
structure GExt (w0 : World) where
  w : World
  h : Grew w0 w
instance (w0 : World) : Nonempty (GExt w0) := ⟨⟨w0, Grew.refl _⟩⟩
theorem wp_region_grew {P : Program} {id : Nat} {Q : Exit → Act → World → Prop} {a : Act} {w : World} {l : List Oper} (hm : P.follows .mixedOrders = true) (hB : Region.lexB .any l.toArray = true)
    (h : wpQuiet P l.toArray (fun w' => ∃ z : GExt w, w' = z.w) (fun a' => ∀ w', (∃ z : GExt w, w' = z.w) → Q .normal a' w') l a) : (Code.region id l.toArray true).wp P Q a w :=
  wp_region_quiet (C := fun w' => ∃ z : GExt w, w' = z.w) hm hB ⟨⟨_, (Grew.refl _).drew⟩, rfl⟩ (by simpa using h)
theorem gext_call {P : Program} {f : FuncId} {args : Array Value} {w0 : World} {z : GExt w0} {v : Value}
    (h : Calls P f args z.w (RetG z.w v)) : Calls P f args z.w fun e w'' => e = .returned v ∧ ∃ z' : GExt w0, w'' = z'.w :=
  h.mono fun _ w' ⟨he, hb⟩ => ⟨he, ⟨w', z.h.trans hb⟩, rfl⟩
theorem RetG.of {w w' : World} {v : Value} {e : Ending} (h : Ret w v e w') : RetG w v e w' := ⟨h.1, by rw [← h.2]; exact Grew.refl _⟩
end Go.Proofs.YtmfdggolnfoniaaDoor
