/- Patches are read: walked. -/
import Derived.Test.YtdafiipedlglpaaDoorMsgk
import Derived.Test.YtdafiipedlglpaaDoorFara
import Derived.Lib.ConvBytes
namespace Go.Proofs.YtdafiipedlglpaaDoor
open Go.RowKit

theorem PatIn.lt {w : World} {G : Nat → Prop} {r : List Value} {p : PatV} (h : PatIn w G r p) : PatIn w (fun k => G k ∧ k < w.heap.size) r p := by
  obtain ⟨⟨A, c, A', c', e, h1, h2, i1, i2⟩, h3, h4⟩ := h
  refine ⟨⟨A, c, A', c', e, h1, h2, ?_, ?_⟩, h3, h4⟩
  · intro hn b o ea
    obtain ⟨b', o', e', hb, _⟩ := h1.sl.2 hn
    rw [ea] at e'; injection e' with e'; injection e' with e1 _
    exact ⟨i1 hn b o ea, by rw [e1]; exact hb⟩
  · intro hn b o ea
    obtain ⟨b', o', e', hb, _⟩ := h2.sl.2 hn
    rw [ea] at e'; injection e' with e'; injection e' with e1 _
    exact ⟨i2 hn b o ea, by rw [e1]; exact hb⟩
end Go.Proofs.YtdafiipedlglpaaDoor
