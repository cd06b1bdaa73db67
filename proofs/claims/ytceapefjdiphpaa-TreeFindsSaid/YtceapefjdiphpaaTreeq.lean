/- Trees: where the files stand; what is written into a copy. -/
import Derived.Test.YtceapefjdiphpaaTreen
namespace Go.Proofs.Ytceapefjdiphpaa
open Go.RowKit

theorem bl_irrefl : ∀ x : List UInt8, Op.bytesLess x x = false
  | [] => rfl
  | a :: x => by
    have := bl_irrefl x
    simp [Op.bytesLess, this]
theorem bl_trans : ∀ {x y z : List UInt8}, Op.bytesLess x y = true → Op.bytesLess y z = true → Op.bytesLess x z = true
  | _, [], _, h, _ => by simp [Op.bytesLess] at h
  | _, _ :: _, [], _, h => by simp [Op.bytesLess] at h
  | [], _ :: _, _ :: _, _, _ => rfl
  | a :: x, b :: y, c :: z, h1, h2 => by
    simp only [Op.bytesLess, Bool.or_eq_true, decide_eq_true_eq, Bool.and_eq_true, beq_iff_eq] at h1 h2 ⊢
    rcases h1 with h1 | ⟨rfl, h1⟩
    · rcases h2 with h2 | ⟨rfl, h2⟩
      · exact .inl (by rw [UInt8.lt_iff_toNat_lt] at *; omega)
      · exact .inl h1
    · rcases h2 with h2 | ⟨rfl, h2⟩
      · exact .inl h2
      · exact .inr ⟨rfl, bl_trans h1 h2⟩
theorem goodT_at {fs : List FileV} (h : goodT fs = true) {k : Nat} (hk : k < fs.length) : okAt fs k = true := by
  unfold goodT at h
  rw [Bool.and_eq_true] at h
  exact List.all_eq_true.1 h.2 k (List.mem_range.2 hk)
theorem goodT_name {fs : List FileV} (h : goodT fs = true) {k : Nat} (hk : k < fs.length) : nameB fs[k].name.data.toList = true := by
  have h1 := goodT_at h hk
  unfold okAt at h1
  rw [List.getElem?_eq_getElem hk] at h1
  have h2 : goodF fs[k] = true := by
    simp only [Bool.and_eq_true] at h1
    exact h1.1
  unfold goodF at h2
  simp only [Bool.and_eq_true] at h2
  exact h2.1
theorem goodT_lt {fs : List FileV} (h : goodT fs = true) : ∀ {k : Nat} (hk : k < fs.length) {j : Nat} (hj : j < k), lessB (fs[j]'(by omega)).name fs[k].name = true
  | 0, _, _, hj => by omega
  | k + 1, hk, j, hj => by
    have h1 := goodT_at h hk
    rw [okAt_succ (List.getElem?_eq_getElem hk) (List.getElem?_eq_getElem (show k < fs.length by omega)), Bool.and_eq_true] at h1
    by_cases he : j = k
    · subst he; exact h1.2
    · exact bl_trans (goodT_lt h (by omega) (by omega)) h1.2
theorem goodT_find {fs : List FileV} (h : goodT fs = true) {k : Nat} (hk : k < fs.length) : findV fs fs[k].name = k :=
  findV_at hk rfl (fun j hj e => by
    have h1 := goodT_lt h hk hj
    unfold lessB at h1
    rw [e, bl_irrefl] at h1
    exact absurd h1 (by decide))
theorem goodT_noname {fs : List FileV} (h : goodT fs = true) : findV fs ⟨#[110, 111, 32, 110, 97, 109, 101]⟩ = -1 := findV_none fun j hj e => by
  have h1 := goodT_name h hj
  rw [e] at h1
  exact absurd h1 (by decide)

/-- the lines of a copy's file: a row that is the call's own, whatever stands in it -/
def RowS (w : World) (B : Nat) (f : FileV) : Prop := ∃ ys, w.ownsRow B 9 1 (.slice f.L f.lines.length f.d) f.lines.length ys
theorem RowS.set_ {w : World} {B B' n' g cap j : Nat} {u : Value} {f : FileV} {xs' : List Value} (h : RowS w B f) (h' : w.ownsRow B' 9 1 (.slice (some ⟨g, 0, none⟩) n' cap) n' xs') : RowS (w.setCell ⟨g, j, none⟩ u) B f := by
  obtain ⟨ys, h⟩ := h
  by_cases hb : (Value.slice f.L f.lines.length f.d).ownBlock = some g
  · have hL : f.L = some ⟨g, 0, none⟩ := by
      rcases h.2 with ⟨h1, _⟩ | ⟨g1, c1, cur, h1, _⟩
      · rw [h1] at hb; simp [Value.ownBlock] at hb
      · injection h1 with h1
        rw [h1] at hb
        simp only [Value.ownBlock, Option.some.injEq] at hb
        rw [h1, hb]
    rw [hL] at h
    refine ⟨ys.set j u, ?_⟩
    rw [hL]
    exact (h.stored j u).1
  · exact ⟨ys, h.kept (h'.stored j u).2 (.inr hb)⟩
theorem RowS.far {w : World} {B B' n' g cap j s' : Nat} {u : Value} {f : FileV} {xs' : List Value} {e' : TypeId} (h : RowS w B f) (h' : w.ownsRow B' e' s' (.slice (some ⟨g, 0, none⟩) n' cap) n' xs') (hne : 9 ≠ e') : RowS (w.setCell ⟨g, j, none⟩ u) B f := by
  obtain ⟨ys, h⟩ := h
  exact ⟨ys, own_set h h' hne⟩
theorem RowS.at_ {w : World} {B : Nat} {f : FileV} (h : RowS w B f) {q : Nat} (hq : q < f.lines.length) : ∃ g ys, f.L = some ⟨g, 0, none⟩ ∧ B ≤ g ∧ w.ownsRow B 9 1 (.slice (some ⟨g, 0, none⟩) f.lines.length f.d) f.lines.length ys ∧ (∃ u, w.cell? ⟨g, q, none⟩ = some u) ∧ w.frozen? ⟨g, q, none⟩ = false := by
  obtain ⟨ys, h⟩ := h
  rcases h.2 with ⟨_, h1⟩ | ⟨g1, c1, cur, h1, hB, _⟩
  · omega
  · injection h1 with h1
    rw [h1] at h
    refine ⟨g1, ys, h1, hB, h, ⟨ys[q]'(by rw [h.1]; omega), ?_⟩, h.frozenAt q⟩
    rw [h.cellAt q (by omega)]
    exact List.getElem?_eq_getElem _
/-- a copy's files: each holds where its lines are -/
def RowF (w : World) (B g cap n : Nat) (gs : List FileV) : Prop := ∃ xs, w.ownsRow B 68 3 (.slice (some ⟨g, 0, none⟩) n cap) n xs ∧ ∀ j (hj : j < gs.length), xs[j * 3 + 2]? = some (.slice gs[j].L gs[j].lines.length gs[j].d)
theorem RowF.name {w : World} {B g cap n : Nat} {gs : List FileV} (h : RowF w B g cap n gs) {k : Nat} (u : Value) : RowF (w.setCell ⟨g, k * 3, none⟩ u) B g cap n gs := by
  obtain ⟨xs, h, h2⟩ := h
  refine ⟨_, (h.stored (k * 3) u).1, fun j hj => ?_⟩
  rw [List.getElem?_set_ne (by omega)]
  exact h2 j hj
theorem RowF.far {w : World} {B B' n' g cap n g' cap' j s' : Nat} {gs : List FileV} {u : Value} {xs' : List Value} {e' : TypeId} (h : RowF w B g cap n gs) (h' : w.ownsRow B' e' s' (.slice (some ⟨g', 0, none⟩) n' cap') n' xs') (hne : 68 ≠ e') : RowF (w.setCell ⟨g', j, none⟩ u) B g cap n gs := by
  obtain ⟨xs, h, h2⟩ := h
  exact ⟨xs, own_set h h' hne, h2⟩
theorem RowF.at_ {w : World} {B g cap n : Nat} {gs : List FileV} (h : RowF w B g cap n gs) (hl : gs.length = n) {k : Nat} (hk : k < gs.length) : (∃ u, w.cell? ⟨g, k * 3, none⟩ = some u) ∧ w.cell? ⟨g, k * 3 + 2, none⟩ = some (.slice gs[k].L gs[k].lines.length gs[k].d) ∧ ∀ j, w.frozen? ⟨g, j, none⟩ = false := by
  obtain ⟨xs, h, h2⟩ := h
  refine ⟨⟨xs[k * 3]'(by rw [h.1]; omega), ?_⟩, ?_, fun j => h.frozenAt j⟩
  · rw [h.cellAt (k * 3) (by omega)]; exact List.getElem?_eq_getElem _
  · rw [h.cellAt (k * 3 + 2) (by omega)]; exact h2 k hk
theorem rowF_of {w : World} {B g cap n : Nat} {gs : List FileV} (hl : gs.length = n) (h : w.ownsRow B 68 3 (.slice (some ⟨g, 0, none⟩) n cap) n (gs.flatMap fileC)) : RowF w B g cap n gs :=
  ⟨_, h, fun j hj => by
    have e := List.take_append_drop j gs
    have h1 := flatMap_len fileC (gs.take j) (size := 3) (fun _ _ => rfl)
    have hlj : (gs.take j).length = j := by rw [List.length_take]; omega
    rw [show gs.flatMap fileC = (gs.take j).flatMap fileC ++ (fileC gs[j] ++ (gs.drop (j + 1)).flatMap fileC) by
      rw [← List.flatMap_cons, ← List.drop_eq_getElem_cons hj, ← List.flatMap_append, List.take_append_drop]]
    rw [List.getElem?_append_right (by omega), h1, hlj, show j * 3 + 2 - j * 3 = 2 by omega]
    rfl⟩
end Go.Proofs.Ytceapefjdiphpaa
