/- Texts of general use, one behind another. -/
import Derived.Test.YtihggkmjalofiaaGreatDoorIdxw
import Derived.Test.YtihggkmjalofiaaGreatDoorVecs
import Derived.Deep.DeepCutAuto

/- An index: a patch that is put: walked. -/
namespace Go.Proofs.YtihggkmjalofiaaGreatDoor
open Go.RowKit
open Go.ChangeMaps (setBlock)

theorem allocPI (w : World) : (Instr.alloc 27 true (.tuple #[])).run Tryz.prog w = .ok (.pointer (some ⟨w.heap.size, 0, none⟩)) (w.alloc (.cells #[.int .u8 0, .int .u16 0] 27)) := by kernel_rfl
theorem info64' {v : List Int} (hv : VecOk v) : (Tryz.prog.info? 75).map (·.size) = some (v.map (Value.int .u16)).length := by rw [List.length_map, hv.len]; exact info64
theorem fieldPat0 (g : Nat) (w : World) : (Instr.fieldAt 31 (.pointer (some ⟨g, 0, none⟩)) 0).run Tryz.prog w = .ok (.pointer (some ⟨g, 0, none⟩)) w := by simp [go_sem]
theorem blk_pat {w : World} {g : Nat} {t : TypeId} {cs : List Value} (h : Blk w g t cs.toArray) : w.rangeAt g 0 cs := by
  intro j u hj
  rw [Nat.zero_add, h.cell j]
  simpa using hj
/-- a slice of cells is in no map's block -/
theorem Sl.setBlock {P : Program} {kt : TypeId} {l : List (Value × Value)} {w : World} {size n gm : Nat} {A : Option Addr} {xs : List Value} (h : Sl w w.heap.size size A n xs) (hpos : 0 < size) (hm : MapIs P kt w gm l) (o : Obj) : Sl (Go.ChangeMaps.setBlock w gm o) (Go.ChangeMaps.setBlock w gm o).heap.size size A n xs :=
  ⟨h.1, fun hn => by
    obtain ⟨b, off, e, hb, hc⟩ := h.2 hn
    have hmul : 0 < n * size := Nat.mul_pos hn hpos
    have hne : b ≠ gm := by
      rintro rfl
      obtain ⟨es, clock, hh, _⟩ := hm
      have := hc 0 hmul
      rw [List.getElem?_eq_getElem (by rw [h.1]; exact hmul)] at this
      simp [World.cell?, hh] at this
    refine ⟨b, off, e, by simpa [Go.ChangeMaps.setBlock] using hb, fun j hj => ?_⟩
    exact (World.cell?_of_block (a := ⟨b, off + j, none⟩) (setBlock_other hne)).trans (hc j hj)⟩
theorem PatAt.setBlock {P : Program} {kt : TypeId} {l : List (Value × Value)} {w : World} {gm : Nat} {r : List Value} {p : PatV} (h : PatAt w r p) (hm : MapIs P kt w gm l) (o : Obj) : PatAt (Go.ChangeMaps.setBlock w gm o) r p := by
  obtain ⟨⟨A, c, A', c', e, h1, h2⟩, h3, h4⟩ := h
  exact ⟨⟨A, c, A', c', e, ⟨h1.len, h1.sl.setBlock (by omega) hm o⟩, ⟨h2.len, h2.sl.setBlock (by omega) hm o, h2.ok⟩⟩, h3, h4⟩
end Go.Proofs.YtihggkmjalofiaaGreatDoor

/- An index made of patches; what any vector lacks, by the document: walked. -/
namespace Go.Proofs.YtihggkmjalofiaaGreatDoor
open Go.RowKit

end Go.Proofs.YtihggkmjalofiaaGreatDoor

/- Regions that draw their order and whose operations keep a condition on the world: one walk in the order of the text. No program in sight but as a variable. -/
namespace Go.Proofs.YtihggkmjalofiaaGreatDoor
open Go.RowKit

end Go.Proofs.YtihggkmjalofiaaGreatDoor

/- The chapter's example of an index: walked. -/
namespace Go.Proofs.YtihggkmjalofiaaGreatDoor
open Go.RowKit

end Go.Proofs.YtihggkmjalofiaaGreatDoor

/- The document's index: a patch by its name; which there are: walked. -/
namespace Go.Proofs.YtihggkmjalofiaaGreatDoor
open Go.RowKit

end Go.Proofs.YtihggkmjalofiaaGreatDoor

/- Who lacks some can put the first one at once, and then all, in order: walked. -/
namespace Go.Proofs.YtihggkmjalofiaaGreatDoor
open Go.RowKit

end Go.Proofs.YtihggkmjalofiaaGreatDoor
