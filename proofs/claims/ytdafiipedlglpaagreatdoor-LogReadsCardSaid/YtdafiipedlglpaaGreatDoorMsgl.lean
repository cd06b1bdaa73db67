/- Patches are read: walked. -/
import Derived.Test.YtdafiipedlglpaaGreatDoorMsgk
import Derived.Test.YtdafiipedlglpaaGreatDoorFara
import Derived.Lib.ConvBytes
namespace Go.Proofs.YtdafiipedlglpaaGreatDoor
open Go.RowKit

theorem wpList_convW {P : Program} {ops : Array Oper} {rest : List Oper} {a : Act} {w w' : World} {Q : Exit → Act → World → Prop} {d : Option Tmp} {ty s t : TypeId} {pos : String} {after : Array Edge} {x : Operand} {xv v : Value} (hx : a.eval x = xv) (hr : (convert s t xv).run P w = .ok v w')
    (h : wpList P ops Q rest (a.put d v) w') : wpList P ops Q (⟨d, .convert s t x, ty, pos, after, none⟩ :: rest) a w :=
  wpList_plain rfl fun _ hK => by
    unfold Oper.wp execOp
    simp only [hx, Sem.run_bind, hr, Result.andThen_ok, Sem.run_pure]
    exact hK _ _ h
theorem conv_bytes (w : World) (s : ByteArray) : (convert 9 35 (.string s)).run Tryz.prog w = .ok (.slice (some ⟨w.heap.size, 0, none⟩) s.size (grownCap w s.size 0 5)) (Lib.bytesWorld w 5 s) :=
  Lib.run_convert_string_bytes w 9 35 5 s (u := .string) (by kernel_rfl) (by kernel_rfl) (by kernel_rfl)
theorem conv_below (w : World) (s : ByteArray) : Below w.heap.size w (Lib.bytesWorld w 5 s) :=
  ⟨rfl, rfl, rfl, by rw [Lib.bytesWorld_size]; omega, fun k hk => Lib.bytesWorld_at_old w _ s k hk⟩
theorem PatIn.lt {w : World} {G : Nat → Prop} {r : List Value} {p : PatV} (h : PatIn w G r p) : PatIn w (fun k => G k ∧ k < w.heap.size) r p := by
  obtain ⟨⟨A, c, A', c', e, h1, h2, i1, i2⟩, h3, h4⟩ := h
  refine ⟨⟨A, c, A', c', e, h1, h2, ?_, ?_⟩, h3, h4⟩
  · intro hn b o ea
    obtain ⟨b', o', e', hb, _⟩ := h1.sl.2 hn
    rw [ea] at e'; injection e' with e'; injection e' with e1 _
    exact ⟨i1 hn b o ea, by rw [e1]; exact hb⟩
  · intro hn b o ea
    obtain ⟨b', o', e', hb, _⟩ := h2.sl.2 hn
    rw [ea] at e'; injection e' with e'; injection e' with e1 _
    exact ⟨i2 hn b o ea, by rw [e1]; exact hb⟩
end Go.Proofs.YtdafiipedlglpaaGreatDoor
