/- THE PATCHES ARE THE VECTOR: plain laws. -/
import Derived.Test.YtceapefjdiphpaaVece
namespace Go.Proofs.Ytceapefjdiphpaa
open Go.RowKit

theorem ofV_join {a b : List Int} (ha : VecOk a) (hb : VecOk b) (n : Nat) : ofV (joinV a b) n = max (ofV a n) (ofV b n) := by
  unfold ofV
  by_cases h : inV n = true
  · have h' : 1 ≤ n ∧ n ≤ 64 := by unfold inV at h; simpa using h
    rw [if_pos h, if_pos h, if_pos h, joinV_get ha hb _ (by omega)]
  · rw [if_neg h, if_neg h, if_neg h]; rfl
theorem ofV_meet {a b : List Int} (ha : VecOk a) (hb : VecOk b) (n : Nat) : ofV (meetV a b) n = min (ofV a n) (ofV b n) := by
  unfold ofV
  by_cases h : inV n = true
  · have h' : 1 ≤ n ∧ n ≤ 64 := by unfold inV at h; simpa using h
    rw [if_pos h, if_pos h, if_pos h, meetV_get ha hb _ (by omega)]
  · rw [if_neg h, if_neg h, if_neg h]; rfl
theorem hasV_join {a b : List Int} (ha : VecOk a) (hb : VecOk b) (n : Nat) (s : Int) : hasV (joinV a b) n s = (hasV a n s || hasV b n s) := by
  unfold hasV
  rw [ofV_join ha hb]
  cases inV n
  · rfl
  · rw [Bool.eq_iff_iff]; simp; omega
theorem hasV_meet {a b : List Int} (ha : VecOk a) (hb : VecOk b) (n : Nat) (s : Int) : hasV (meetV a b) n s = (hasV a n s && hasV b n s) := by
  unfold hasV
  rw [ofV_meet ha hb]
  cases inV n
  · rfl
  · rw [Bool.eq_iff_iff]; simp; omega
/-- the vector with the patch that comes next -/
theorem next_put {a : List Int} {n : Nat} (h : inV n = true ∧ ofV a n < 60000) : nextV a n = ((n : Int), ofV a n + 1) ∧ putOk a n (ofV a n + 1) = true ∧ putV a n (ofV a n + 1) = a.set (n - 1) (ofV a n + 1) := by
  have h1 : nextV a n = ((n : Int), ofV a n + 1) := if_pos h
  have h' : 1 ≤ n ∧ n ≤ 64 := by have := h.1; unfold inV at this; simpa using this
  have h2 : putOk a n (ofV a n + 1) = true := by
    unfold putOk
    rw [h1]
    simp; omega
  exact ⟨h1, h2, by unfold putV; rw [if_pos h2]⟩
theorem next_none {a : List Int} {n : Nat} (h : ¬ (inV n = true ∧ ofV a n < 60000)) : nextV a n = (0, 0) ∧ putOk a 0 0 = false :=
  ⟨if_neg h, by unfold putOk; simp⟩
theorem set_getD {a : List Int} {k j : Nat} {v : Int} (hk : k < a.length) : (a.set k v).getD j 0 = if j = k then v else a.getD j 0 := by
  rw [List.getD_eq_getElem?_getD, List.getD_eq_getElem?_getD, List.getElem?_set]
  by_cases h : k = j
  · subst h; rw [if_pos rfl, if_pos rfl, if_pos hk]; rfl
  · rw [if_neg h, if_neg (Ne.symm h)]
theorem ofV_set {a : List Int} (ha : VecOk a) {n : Nat} (hi : inV n = true) (v : Int) : ofV (a.set (n - 1) v) n = v := by
  have h' : 1 ≤ n ∧ n ≤ 64 := by unfold inV at hi; simpa using hi
  unfold ofV
  rw [if_pos hi, set_getD (by rw [ha.len]; omega), if_pos rfl]
theorem hasV_next {a : List Int} (ha : VecOk a) {n : Nat} (hi : inV n = true) (s : Int) (hs : s ≠ ofV a n + 1) : hasV (a.set (n - 1) (ofV a n + 1)) n s = hasV a n s := by
  unfold hasV
  rw [ofV_set ha hi, Bool.eq_iff_iff]
  simp [hi]; omega
theorem hasV_new {a : List Int} (ha : VecOk a) {n : Nat} (hi : inV n = true) : hasV (a.set (n - 1) (ofV a n + 1)) n (ofV a n + 1) = true ∧ hasV a n (ofV a n + 1) = false := by
  have := ofV_bd ha n
  unfold hasV
  rw [ofV_set ha hi]
  exact ⟨by simp [hi]; omega, by simp [hi]; omega⟩
theorem totTo_set {a : List Int} {k : Nat} (hk : k < a.length) : ∀ m, m ≤ a.length → totTo (a.set k (a.getD k 0 + 1)) m = totTo a m + if k < m then 1 else 0
  | 0, _ => by simp [totTo]
  | m + 1, h => by
    rw [totTo_succ _ m (by rw [List.length_set]; omega), totTo_succ _ m (by omega), totTo_set hk m (by omega), set_getD hk]
    by_cases e : m = k
    · subst e; rw [if_pos rfl, if_neg (by omega), if_pos (by omega)]; omega
    · rw [if_neg e]
      by_cases e2 : k < m
      · rw [if_pos e2, if_pos (by omega)]; omega
      · rw [if_neg e2, if_neg (by omega)]; omega
theorem totV_set {a : List Int} (ha : VecOk a) {n : Nat} (hi : inV n = true) : totV (a.set (n - 1) (ofV a n + 1)) = totV a + 1 := by
  have h' : 1 ≤ n ∧ n ≤ 64 := by unfold inV at hi; simpa using hi
  have : ofV a n = a.getD (n - 1) 0 := if_pos hi
  unfold totV
  rw [this, totTo_set (by rw [ha.len]; omega) 64 (by rw [ha.len]; exact Nat.le_refl _), if_pos (by omega)]
theorem within_set {a : List Int} (ha : VecOk a) {n : Nat} (hi : inV n = true) (hok : VecOk (a.set (n - 1) (ofV a n + 1))) : withinV a (a.set (n - 1) (ofV a n + 1)) = true := by
  have h' : 1 ≤ n ∧ n ≤ 64 := by unfold inV at hi; simpa using hi
  have : ofV a n = a.getD (n - 1) 0 := if_pos hi
  rw [withinV_iff ha hok]
  intro k hk
  rw [set_getD (by rw [ha.len]; omega)]
  by_cases e : k = n - 1
  · subst e; rw [if_pos rfl]; omega
  · rw [if_neg e]; exact Int.le_refl _
theorem within_meet {a b : List Int} (ha : VecOk a) (hb : VecOk b) : withinV (meetV a b) a = true := by
  rw [withinV_iff (ha.meet hb) ha]
  intro k hk
  rw [meetV_get ha hb k hk]; omega
theorem within_join {a b : List Int} (ha : VecOk a) (hb : VecOk b) : withinV a (joinV a b) = true := by
  rw [withinV_iff ha (ha.join hb)]
  intro k hk
  rw [joinV_get ha hb k hk]; omega
theorem totTo_sum {a b : List Int} (ha : VecOk a) (hb : VecOk b) : ∀ m, m ≤ 64 → totTo (joinV a b) m + totTo (meetV a b) m = totTo a m + totTo b m
  | 0, _ => by simp [totTo]
  | m + 1, h => by
    rw [totTo_succ _ m (by rw [(ha.join hb).len]; omega), totTo_succ _ m (by rw [(ha.meet hb).len]; omega), totTo_succ a m (by rw [ha.len]; omega), totTo_succ b m (by rw [hb.len]; omega),
      joinV_get ha hb m (by omega), meetV_get ha hb m (by omega)]
    have := totTo_sum ha hb m (by omega)
    omega
theorem lack_within {a b : List Int} (ha : VecOk a) (hb : VecOk b) : (withinV a b = true ↔ lackV b a = 0) := by
  rw [withinV_iff ha hb]
  have key : ∀ m, m ≤ 64 → 0 ≤ lackTo b a m ∧ ((∀ k, k < m → a.getD k 0 ≤ b.getD k 0) ↔ lackTo b a m = 0) := by
    intro m
    induction m with
    | zero => intro _; exact ⟨by simp [lackTo, totTo], by simp [lackTo, totTo]⟩
    | succ m ih =>
      intro hm
      obtain ⟨h0, h1⟩ := ih (by omega)
      rw [lackTo_succ hb ha m (by omega)]
      by_cases h : b.getD m 0 < a.getD m 0
      · rw [if_pos h]
        refine ⟨by omega, fun hk => ?_, fun hz => ?_⟩
        · have := hk m (by omega); omega
        · omega
      · rw [if_neg h]
        refine ⟨by omega, fun hk => ?_, fun hz => ?_⟩
        · have := h1.1 (fun k hk' => hk k (by omega)); omega
        · intro k hk
          by_cases e : k = m
          · subst e; omega
          · exact h1.2 (by omega) k (by omega)
  exact (key 64 (by omega)).2
end Go.Proofs.Ytceapefjdiphpaa
