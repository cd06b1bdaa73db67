/- Who lacks some can put the first one at once, and then all, in order: walked. -/
import Derived.Test.YtnhbbggpgieipaaGreatIdxh
namespace Go.Proofs.YtnhbbggpgieipaaGreat
open Go.RowKit

theorem RowsAt.bools {w : World} {A : Option Addr} {n c : Nat} {rows : List (List Value)} (h : RowsAt [.bool] w A n c rows) :
    ∃ bs : List Bool, bs.length = n ∧ Sl w w.heap.size 1 A n (bs.map Value.bool) := by
  obtain ⟨bs, hz, _⟩ := rows_map (fun z => [Value.bool z]) (fun _ => True) rows (fun r hr => by
    have := h.ok r hr
    match r, this with
    | [v], ⟨⟨s, hs⟩, _⟩ => exact ⟨s, by rw [hs], trivial⟩)
  have hsl := h.sl
  rw [hz, flatten_one] at hsl
  exact ⟨bs, by rw [← h.len, hz]; simp, hsl⟩
/-- those of the first k that are taken, put one by one -/
def someL (xs : List Bool) (L : List PatV) : Nat → List PatV
  | 0 => []
  | k + 1 =>
    match L[k]? with
    | none => someL xs L k
    | some p => if xs[k]? = some true then idxL (someL xs L k) p else someL xs L k
theorem someL_yes {xs : List Bool} {L : List PatV} {k : Nat} {p : PatV} (h : L[k]? = some p) (hx : xs[k]? = some true) : someL xs L (k + 1) = idxL (someL xs L k) p := by simp only [someL, h, hx, if_true]
theorem someL_no {xs : List Bool} {L : List PatV} {k : Nat} {p : PatV} (h : L[k]? = some p) (hx : xs[k]? ≠ some true) : someL xs L (k + 1) = someL xs L k := by simp only [someL, h]; rw [if_neg hx]
theorem someL_ok (xs : List Bool) (L : List PatV) : ∀ k, IdxOk (someL xs L k) ∧ (∀ p ∈ someL xs L k, p ∈ L) ∧ (someL xs L k).length ≤ k
  | 0 => ⟨.nil, by simp [someL], by simp [someL]⟩
  | k + 1 => by
    obtain ⟨h1, h2, h3⟩ := someL_ok xs L k
    cases h : L[k]? with
    | none =>
      have e : someL xs L (k + 1) = someL xs L k := by simp only [someL, h]
      rw [e]; exact ⟨h1, h2, by omega⟩
    | some p =>
      by_cases hx : xs[k]? = some true
      · rw [someL_yes h hx]
        refine ⟨h1.put p, fun q hq => ?_, by have := idxL_len (someL xs L k) p; omega⟩
        unfold idxL at hq
        split at hq
        · rcases List.mem_append.1 hq with hq | hq
          · exact h2 q hq
          · obtain rfl := List.mem_singleton.1 hq
            exact List.mem_of_getElem? h
        · exact h2 q hq
      · rw [someL_no h hx]; exact ⟨h1, h2, by omega⟩
theorem stay_then {G : Nat → Prop} {a b c : World} (h : Stay G a b) (k : Stay G b c) : Stay G a c :=
  ⟨Nat.le_trans h.1 k.1, fun i hi hg => (k.2 i (Nat.lt_of_lt_of_le hi h.1) hg).trans (h.2 i hi hg)⟩
theorem stay_put {F G : Nat → Prop} {a b c : World} (h : Below a.heap.size a b) (k : Kept F b c) (hd : ∀ q, F q → ¬ G q) : Stay G a c :=
  stay_then (Stay.of_below h) (k.stay fun q _ hg hf => hd q hf hg)
theorem fieldPatAt0 (b o : Nat) (w : World) : (Instr.fieldAt 37 (.pointer (some ⟨b, o, none⟩)) 0).run Tryz.prog w = .ok (.pointer (some ⟨b, o, none⟩)) w := by simp [go_sem]
theorem indexPats (b o n c k : Nat) (hk : k < n) (w : World) : (Instr.indexAt 27 (.slice (some ⟨b, o, none⟩) n c) (.int .i64 ((k : Nat) : Int))).run Tryz.prog w = .ok (.pointer (some ⟨b, o + k * 4, none⟩)) w := by
  have h0 : (0 : Int) ≤ (k : Int) := by omega
  have h1 : (k : Int) < (n : Int) := by omega
  simp [go_sem, h0, h1]
end Go.Proofs.YtnhbbggpgieipaaGreat
