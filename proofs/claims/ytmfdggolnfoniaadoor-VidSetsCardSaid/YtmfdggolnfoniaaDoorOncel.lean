/- Each once: plain laws of the loop that does it in place. No program in sight. -/
import Derived.Test.YtmfdggolnfoniaaDoorSetl
namespace Go.Proofs.YtmfdggolnfoniaaDoor
section
variable {α : Type} [DecidableEq α]
theorem onceK_head (y : α) (r : List α) : ∃ t, onceK (y :: r) = y :: t := by
  induction r generalizing y with
  | nil => exact ⟨[], rfl⟩
  | cons z r ih =>
    unfold onceK
    split
    · rename_i e; subst e; exact ih y
    · exact ⟨_, rfl⟩
omit [DecidableEq α] in
theorem drop_two {l : List α} {m : Nat} {x y : α} (hm : 0 < m) (hx : l[m - 1]? = some x) (hy : l[m]? = some y) : l.drop (m - 1) = x :: l.drop m ∧ l.drop m = y :: l.drop (m + 1) := by
  obtain ⟨h1, rfl⟩ := List.getElem?_eq_some_iff.1 hx
  obtain ⟨h2, rfl⟩ := List.getElem?_eq_some_iff.1 hy
  refine ⟨?_, List.drop_eq_getElem_cons h2⟩
  rw [List.drop_eq_getElem_cons h1]
  congr 2; omega
omit [DecidableEq α] in
theorem drop_last {l : List α} {m : Nat} {x : α} (hm : m = l.length) (hx : l[m - 1]? = some x) : l.drop (m - 1) = [x] := by
  obtain ⟨h1, rfl⟩ := List.getElem?_eq_some_iff.1 hx
  rw [List.drop_eq_getElem_cons h1, List.drop_eq_nil_of_le (by omega)]
theorem out_step {l : List α} {k : Nat} {x y : α} (hk : 0 < k) (hx : l[k - 1]? = some x) (hy : l[k]? = some y) (hne : x ≠ y) (h : onceK l = l.take (k - 1) ++ onceK (l.drop (k - 1))) : onceK l = l.take k ++ onceK (l.drop k) := by
  obtain ⟨e1, e2⟩ := drop_two hk hx hy
  rw [h, e1, e2]
  have e3 : onceK (x :: y :: l.drop (k + 1)) = x :: onceK (y :: l.drop (k + 1)) := by
    conv => lhs; unfold onceK
    rw [if_neg hne]
  rw [e3]
  obtain ⟨h1, rfl⟩ := List.getElem?_eq_some_iff.1 hx
  have e4 : l.take k = l.take (k - 1) ++ [l[k - 1]] := by
    have := List.take_succ_eq_append_getElem h1
    rwa [show k - 1 + 1 = k by omega] at this
  rw [e4, List.append_assoc, List.singleton_append]
theorem out_end {l : List α} {k : Nat} {x : α} (hk : k = l.length) (hx : l[k - 1]? = some x) (h : onceK l = l.take (k - 1) ++ onceK (l.drop (k - 1))) : onceK l = l := by
  have e := drop_last hk hx
  have e2 : onceK l = l.take (k - 1) ++ l.drop (k - 1) := by rw [h, e]; rfl
  rw [e2, List.take_append_drop]
theorem in_start {l : List α} {k : Nat} {x : α} (hk : 0 < k) (hx : l[k - 1]? = some x) (hy : l[k]? = some x) (h : onceK l = l.take (k - 1) ++ onceK (l.drop (k - 1))) : onceK l = l.take k ++ (onceK (l.drop k)).tail := by
  obtain ⟨e1, e2⟩ := drop_two hk hx hy
  obtain ⟨t, ht⟩ := onceK_head x (l.drop (k + 1))
  have e3 : onceK (l.drop (k - 1)) = x :: t := by
    rw [e1, e2]
    conv => lhs; unfold onceK
    rw [if_pos rfl, ht]
  obtain ⟨h1, h1'⟩ := List.getElem?_eq_some_iff.1 hx
  have e4 : l.take k = l.take (k - 1) ++ [x] := by
    have := List.take_succ_eq_append_getElem h1
    rwa [show k - 1 + 1 = k by omega, h1'] at this
  rw [h, e3, e4, e2, ht]; simp
theorem in_same {l : List α} {m : Nat} {x : α} (hm : 0 < m) (hx : l[m - 1]? = some x) (hy : l[m]? = some x) : (onceK (l.drop (m - 1))).tail = (onceK (l.drop m)).tail := by
  obtain ⟨e1, e2⟩ := drop_two hm hx hy
  rw [e1, e2]
  conv => lhs; unfold onceK
  rw [if_pos rfl]
theorem in_more {l : List α} {m : Nat} {x y : α} (hm : 0 < m) (hx : l[m - 1]? = some x) (hy : l[m]? = some y) (hne : x ≠ y) : (onceK (l.drop (m - 1))).tail = y :: (onceK (l.drop m)).tail := by
  obtain ⟨e1, e2⟩ := drop_two hm hx hy
  obtain ⟨t, ht⟩ := onceK_head y (l.drop (m + 1))
  rw [e1, e2]
  conv => lhs; unfold onceK
  rw [if_neg hne, ht]; rfl
theorem in_end {l : List α} {m : Nat} {x : α} (hm : m = l.length) (hx : l[m - 1]? = some x) : (onceK (l.drop (m - 1))).tail = [] := by
  rw [drop_last hm hx]; rfl
omit [DecidableEq α] in
theorem set_take {l : List α} {k : Nat} (y : α) (hk : k < l.length) : (l.set k y).take (k + 1) = l.take k ++ [y] := by
  rw [List.take_succ_eq_append_getElem (by rw [List.length_set]; exact hk), List.take_set_of_le (Nat.le_refl _)]
  simp
omit [DecidableEq α] in
theorem get_of_drop {l bs : List α} {m i : Nat} (h : bs.drop m = l.drop m) (hi : m ≤ i) : bs[i]? = l[i]? := by
  have := congrArg (fun d => d[i - m]?) h
  simp only [List.getElem?_drop] at this
  rwa [show m + (i - m) = i by omega] at this
omit [DecidableEq α] in
theorem drop_of_drop {l bs : List α} {m i : Nat} (h : bs.drop m = l.drop m) (hi : m ≤ i) : bs.drop i = l.drop i := by
  have := congrArg (List.drop (i - m)) h
  simp only [List.drop_drop] at this
  rwa [show m + (i - m) = i by omega] at this
end
end Go.Proofs.YtmfdggolnfoniaaDoor
