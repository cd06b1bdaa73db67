/- Texts of general use, one behind another. -/
import Derived.Test.YtdafiipedlglpaaDoorLogs
import Derived.Test.YtdafiipedlglpaaDoorCrcq
import Derived.Test.YtdafiipedlglpaaDoorRps
import Derived.Test.YtdafiipedlglpaaDoorFarb
import Derived.Test.YtdafiipedlglpaaDoorPaws
import Derived.Test.YtdafiipedlglpaaDoorGen
import Derived.Test.YtdafiipedlglpaaDoorLists
import Derived.Test.YtdafiipedlglpaaDoorRpg

/- The document's frames, and its disk: walked. -/
namespace Go.Proofs.YtdafiipedlglpaaDoor
open Go.RowKit

end Go.Proofs.YtdafiipedlglpaaDoor

/- The document's disk: walked. -/
namespace Go.Proofs.YtdafiipedlglpaaDoor
open Go.RowKit

end Go.Proofs.YtdafiipedlglpaaDoor

/- The document reads patches off bytes: walked. -/
namespace Go.Proofs.YtdafiipedlglpaaDoor
open Go.RowKit

end Go.Proofs.YtdafiipedlglpaaDoor

/- What happens to a log; whether it is few and small: walked. -/
namespace Go.Proofs.YtdafiipedlglpaaDoor
open Go.RowKit

/-- what happens: a kind, a number, a patch -/
abbrev Act30 := Int × Int × PatV
structure Act30At (w : World) (r : List Value) (a : Act30) : Prop where
  ex : ∃ rp, r = .int .u8 a.1 :: (.int .i64 a.2.1 :: rp) ∧ PatAt w rp a.2.2
  kind : 0 ≤ a.1 ∧ a.1 < 256
  num : -9223372036854775808 ≤ a.2.1 ∧ a.2.1 ≤ 9223372036854775807
theorem Act30At.len {w : World} {r : List Value} {a : Act30} (h : Act30At w r a) : r.length = 6 := by
  obtain ⟨rp, rfl, hp⟩ := h.ex
  simp [hp.len4]
theorem Act30At.ext {w w' : World} {r : List Value} {a : Act30} (h : Act30At w r a) (hb : Below w.heap.size w w') : Act30At w' r a := by
  obtain ⟨⟨rp, e, hp⟩, h2, h3⟩ := h
  exact ⟨⟨rp, e, hp.ext hb⟩, h2, h3⟩
def RowsA30 (w : World) (rows : List (List Value)) (l : List Act30) : Prop := rows.length = l.length ∧ ∀ (k : Nat) (r : List Value) (a : Act30), rows[k]? = some r → l[k]? = some a → Act30At w r a
structure Acts30At (w : World) (A : Option Addr) (n : Nat) (l : List Act30) : Prop where
  len : l.length = n
  ex : ∃ rows, RowsA30 w rows l ∧ Sl w w.heap.size 6 A n rows.flatten
theorem Acts30At.ext {w w' : World} {A : Option Addr} {n : Nat} {l : List Act30} (h : Acts30At w A n l) (hb : Below w.heap.size w w') : Acts30At w' A n l := by
  obtain ⟨rows, h1, h2⟩ := h.ex
  exact ⟨h.len, rows, ⟨h1.1, fun k r a e1 e2 => (h1.2 k r a e1 e2).ext hb⟩, (h2.below hb (Nat.le_refl _)).more hb.size⟩
theorem Acts30At.at_ {w : World} {A : Option Addr} {n : Nat} {l : List Act30} (h : Acts30At w A n l) {k : Nat} (hk : k < n) : ∃ b o a r, A = some ⟨b, o, none⟩ ∧ b < w.heap.size ∧ l[k]? = some a ∧ Act30At w r a ∧ w.rangeAt b (o + k * 6) r := by
  obtain ⟨rows, h1, h2⟩ := h.ex
  have hk1 : k < l.length := by rw [h.len]; exact hk
  have hk2 : k < rows.length := by rw [h1.1]; exact hk1
  have e : rows.flatten = rows.flatMap id := by simp [List.flatMap_def]
  have h4 : ∀ x ∈ rows, x.length = 6 := fun x hx => by
    obtain ⟨i, hi, rfl⟩ := List.getElem_of_mem hx
    exact (h1.2 i _ _ (List.getElem?_eq_getElem hi) (List.getElem?_eq_getElem (by rw [← h1.1]; exact hi))).len
  rw [e] at h2
  obtain ⟨b, o, rfl, hb, hr⟩ := h2.rowAt (by rw [h1.1, h.len]) (fun x hx => h4 x hx) hk2
  exact ⟨b, o, l[k], rows[k], rfl, hb, List.getElem?_eq_getElem hk1, h1.2 k _ _ (List.getElem?_eq_getElem hk2) (List.getElem?_eq_getElem hk1), hr⟩
theorem pats_one30 {w : World} {r : List Value} {p : PatV} (h : PatAt w r p) : PatsAt (w.alloc (.cells r.toArray 28)) (some ⟨w.heap.size, 0, none⟩) 1 [p] := by
  refine ⟨rfl, [r], ⟨rfl, fun k r' p' h1 h2 => ?_⟩, ?_⟩
  · match k, h1, h2 with
    | 0, h1, h2 =>
      obtain rfl : r = r' := by simpa using h1
      obtain rfl : p = p' := by simpa using h2
      exact h.ext (below_new _ _)
    | _ + 1, h1, _ => simp at h1
  · have e : [r].flatten = r := by simp
    rw [e]
    exact sl_fresh w _ 28 4 1 r (by rw [h.len4]) rfl
end Go.Proofs.YtdafiipedlglpaaDoor

/- The document's log: walked. -/
namespace Go.Proofs.YtdafiipedlglpaaDoor
open Go.RowKit

end Go.Proofs.YtdafiipedlglpaaDoor
