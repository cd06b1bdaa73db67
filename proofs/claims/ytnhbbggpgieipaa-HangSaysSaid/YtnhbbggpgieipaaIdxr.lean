/- An index's patches are handed back in rows of their own, each list in a block of its own that may be written: walked. -/
import Derived.Test.YtnhbbggpgieipaaIdxq
namespace Go.Proofs.Ytnhbbggpgieipaa
open Go.RowKit

/-- a block of cells none of which is frozen -/
def NFr (w : World) (k : Nat) : Prop := ∃ cs t, w.heap[k]? = some (.cells cs t (0, 0))
theorem NFr.keep {w w' : World} {k : Nat} (h : NFr w k) (e : w'.heap[k]? = w.heap[k]?) : NFr w' k := by
  obtain ⟨cs, t, h⟩ := h
  exact ⟨cs, t, e.trans h⟩
theorem NFr.fr {w : World} {k : Nat} (h : NFr w k) (o : Nat) : w.frozen? ⟨k, o, none⟩ = false := by
  obtain ⟨cs, t, h⟩ := h
  simp [World.frozen?, h]
def OwnN (B : Nat) (w : World) (s : Value) (l : List PatV) : Prop := ∃ rows D, w.ownsRow B 45 4 s l.length rows.flatten ∧ RowsIn w D rows l ∧ ∀ k, D k → B ≤ k ∧ k < w.heap.size ∧ s.ownBlock ≠ some k ∧ NFr w k
section
variable {w w' : World} {B : Nat} {s : Value} {l : List PatV}
theorem OwnN.nil (B : Nat) (w : World) : OwnN B w (.slice none 0 0) [] := ⟨[], fun _ => False, World.ownsRow_nil _ _ _ _, RowsIn.nil w _, fun _ h => h.elim⟩
theorem OwnN.stay (h : OwnN B w s l) (hk : Stay (fun k => B ≤ k) w w') : OwnN B w' s l := by
  obtain ⟨rows, D, h1, h2, h3⟩ := h
  exact ⟨rows, D, own_keepF h1 (fun g e => hk.2 g (h1.lt g e).2 (h1.lt g e).1), h2.stay (hk.mono fun k e => (h3 k e).1), fun k e => ⟨(h3 k e).1, Nat.lt_of_lt_of_le (h3 k e).2.1 hk.1, (h3 k e).2.2.1, (h3 k e).2.2.2.keep (hk.2 k (h3 k e).2.1 (h3 k e).1)⟩⟩
theorem OwnN.ext (h : OwnN B w s l) (hb : Below w.heap.size w w') : OwnN B w' s l := h.stay (Stay.of_below hb)
theorem OwnN.slice (h : OwnN B w s l) : ∃ A c, s = .slice A l.length c ∧ l.length ≤ c := by
  obtain ⟨rows, D, h1, _⟩ := h
  obtain ⟨A, c, rfl, hc, _⟩ := Sl.of_own h1
  exact ⟨A, c, rfl, hc⟩
theorem OwnN.mono {B' : Nat} (h : OwnN B w s l) (hB : B' ≤ B) : OwnN B' w s l := by
  obtain ⟨rows, D, h1, h2, h3⟩ := h
  exact ⟨rows, D, own_rebase h1 (fun k e => Nat.le_trans hB (h1.lt k e).1), h2, fun k e => ⟨Nat.le_trans hB (h3 k e).1, (h3 k e).2⟩⟩
theorem OwnN.push {w0 : World} {v : Value} {r : List Value} {p : PatV} {C : Nat} {rows : List (List Value)} {D : Nat → Prop} (ho : w'.ownsRow B 45 4 v (l.length + 1) (rows.flatten ++ r)) (hk : Kept (fun k => s.ownBlock = some k) w0 w')
    (hv : ∀ k, v.ownBlock = some k → s.ownBlock = some k ∨ w0.heap.size ≤ k) (hr : RowsIn w0 D rows l) (hD : ∀ k, D k → B ≤ k ∧ k < w0.heap.size ∧ s.ownBlock ≠ some k ∧ NFr w0 k) (hp : PatIn w0 (fun k => C ≤ k ∧ k < w0.heap.size ∧ NFr w0 k) r p) (hC : B ≤ C) (hs : ∀ k, s.ownBlock = some k → k < C) : OwnN B w' v (l ++ [p]) := by
  have st : Stay (fun k => D k ∨ C ≤ k ∧ k < w0.heap.size ∧ NFr w0 k) w0 w' := hk.stay fun k _ hd e => hd.elim (fun hd => (hD k hd).2.2.1 e) (fun hd => by have := hs k e; omega)
  refine ⟨rows ++ [r], fun k => D k ∨ C ≤ k ∧ k < w0.heap.size ∧ NFr w0 k, ?_, ((hr.mono fun k hd => .inl hd).snoc (hp.mono fun k hd => .inr hd)).stay st, fun k hd => ?_⟩
  · rw [List.length_append, List.flatten_append]
    simpa using ho
  · have hlt : B ≤ k ∧ k < w0.heap.size ∧ NFr w0 k := hd.elim (fun hd => ⟨(hD k hd).1, (hD k hd).2.1, (hD k hd).2.2.2⟩) (fun hd => ⟨by omega, hd.2⟩)
    refine ⟨hlt.1, Nat.lt_of_lt_of_le hlt.2.1 hk.size, fun e => ?_, hlt.2.2.keep (st.2 k hlt.2.1 hd)⟩
    rcases hv k e with e | e
    · exact hd.elim (fun hd => (hD k hd).2.2.1 e) (fun hd => by have := hs k e; omega)
    · omega
end
end Go.Proofs.Ytnhbbggpgieipaa
