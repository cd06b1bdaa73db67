/- One element put behind a slice of the call's own. No program in sight but as a variable. -/
import Derived.Test.YtmfdggolnfoniaaDoorQuiet
namespace Go.Proofs.YtmfdggolnfoniaaDoor
open Go.RowKit

/-- what is known of a slice type: its elements' type, their cells and bytes -/
structure SlT (P : Program) (t e : TypeId) (size bytes : Nat) : Prop where
  ht : P.underlying t = some (.slice e)
  hi : ∃ i z, P.info? e = some i ∧ i.zero = some z ∧ i.size = size ∧ i.bytes = bytes ∧ z.cells.size = size
  pos : 0 < size
theorem slT_of {P : Program} {t e : TypeId} {z : Value} {size bytes : Nat} (ht : P.underlying t = some (.slice e)) (h : (P.info? e).map (fun i => (i.zero, i.size, i.bytes)) = some (some z, size, bytes)) (hz : z.cells.size = size) (pos : 0 < size) : SlT P t e size bytes := by
  obtain ⟨i, h1, h2, h3, h4⟩ := info_parts h
  exact ⟨ht, ⟨i, z, h1, h2, h3, h4, hz⟩, pos⟩

theorem news_new (w : World) (e : TypeId) (cs : List Value) : ∀ j u, cs[j]? = some u → (w.alloc (.cells cs.toArray e)).cell? ((⟨w.heap.size, 0, none⟩ : Addr).add j) = some u := by
  intro j u hu
  have ea : (⟨w.heap.size, 0, none⟩ : Addr).add j = ⟨w.heap.size, j, none⟩ := by unfold Addr.add; split <;> simp_all
  rw [ea, (Blk.new w e cs.toArray).cell j]
  simpa using hu

section
variable {P : Program} {w w0 : World} {ops : Array Oper} {rest : List Oper} {a : Act} {Q : Exit → Act → World → Prop}
theorem wpList_push {d : Option Tmp} {ty : TypeId} {pos : String} {after : Array Edge} {s x : Operand} {t e : TypeId} {size bytes : Nat} (T : SlT P t e size bytes)
    {base : Nat} {v : Value} {n : Nat} {xs : List Value} (hown : w0.ownsRow base e size v n xs) (cs : List Value) (hl : cs.length = size) (h1 : ∀ u ∈ cs, u.oneCell' = true) (hbase : base ≤ w0.heap.size)
    (hb : (n + 1) * bytes ≤ 140737488355328) (hm : n + 1 ≤ maxLen)
    (hs : a.eval s = v) (hx : a.eval x = .slice (some ⟨w0.heap.size, 0, none⟩) 1 1) (hw : w = w0.alloc (.cells cs.toArray e))
    (h : ∀ v' w', w'.ownsRow base e size v' (n + 1) (xs ++ cs) → Below base w0 w' → wpList P ops Q rest (a.put d v') w') :
    wpList P ops Q (⟨d, .call { callee := .builtin .append, args := #[s, x], argTypes := #[t, t] }, ty, pos, after, none⟩ :: rest) a w := by
  obtain ⟨i, z, hi, hz, hsz, hby, hzs⟩ := T.hi
  subst hw
  have hown' := hown.alloc (.cells cs.toArray e)
  refine wpList_append_own _ rfl s x t rfl base e i z size bytes T.ht hi hz hsz hby hzs T.pos v n xs hs hown' ⟨w0.heap.size, 0, none⟩ 1 1 cs hx (by omega) (news_new w0 e cs) h1 hm hb (by simp; omega) ?_
  intro v' w' ho hg _
  refine h v' w' ho ?_
  exact ((Below.refl base w0).alloc hbase _).grown hg (by simp; omega) (fun k hk => (hown'.lt k hk).1)
end

theorem Sl.of_own {w : World} {base : Nat} {e : TypeId} {size n : Nat} {v : Value} {xs : List Value} (h : w.ownsRow base e size v n xs) : ∃ A c, v = .slice A n c ∧ n ≤ c ∧ Sl w w.heap.size size A n xs := by
  have hlt := h.lt
  have hcells := @World.ownsRow.cells
  obtain ⟨hl, h2⟩ := h
  rcases h2 with ⟨rfl, h0⟩ | ⟨g, cap, cur, rfl, hg, hh, hnc, hrest⟩
  · subst h0
    exact ⟨none, 0, rfl, Nat.le_refl _, hl, fun h => by omega⟩
  · refine ⟨_, _, rfl, hnc, hl, fun hn => ⟨g, 0, rfl, (hlt g rfl).2, fun j hj => ?_⟩⟩
    have hu : j < xs.length := by omega
    have := hcells (w := w) (base := base) (e := e) (size := size) (n := n) (v := .slice (some ⟨g, 0, none⟩) n cap) (xs := xs) ⟨hl, .inr ⟨g, cap, cur, rfl, hg, hh, hnc, hrest⟩⟩ (g := g) rfl j xs[j] (List.getElem?_eq_getElem hu)
    have ea : (⟨g, 0, none⟩ : Addr).add j = ⟨g, j, none⟩ := by unfold Addr.add; split <;> simp_all
    rw [ea] at this
    rw [Nat.zero_add, this, List.getElem?_eq_getElem hu]

/-- a slice is handed back: it reads as these cells, and nothing that was there has turned -/
def RetSl (w : World) (size n : Nat) (xs : List Value) (e : Ending) (w' : World) : Prop :=
  ∃ A c, e = .returned (.slice A n c) ∧ n ≤ c ∧ Sl w' w'.heap.size size A n xs ∧ Below w.heap.size w w'
end Go.Proofs.YtmfdggolnfoniaaDoor
