/- The longest list that two lists have in common: plain laws, no program in sight. -/
import Derived.Test.YtlebhalaodmkhaaBase
namespace Go.Proofs.Ytlebhalaodmkhaa

section
variable {α : Type} [DecidableEq α]
def lcsL : List α → List α → Nat
  | [], _ => 0
  | _ :: _, [] => 0
  | x :: a, y :: b => if x = y then lcsL a b + 1 else max (lcsL a (y :: b)) (lcsL (x :: a) b)
termination_by a b => a.length + b.length
theorem lcsL_nil (b : List α) : lcsL [] b = 0 := by unfold lcsL; rfl
theorem lcsL_nil' (a : List α) : lcsL a [] = 0 := by cases a <;> simp [lcsL]
theorem lcsL_eq (x : α) (a b : List α) : lcsL (x :: a) (x :: b) = lcsL a b + 1 := by rw [lcsL, if_pos rfl]
theorem lcsL_ne {x y : α} (h : x ≠ y) (a b : List α) : lcsL (x :: a) (y :: b) = max (lcsL a (y :: b)) (lcsL (x :: a) b) := by rw [lcsL, if_neg h]

/-- there is a list that both have, as long as that -/
theorem lcs_ex : ∀ (a b : List α), ∃ c : List α, c.Sublist a ∧ c.Sublist b ∧ c.length = lcsL a b
  | [], b => ⟨[], by simp, by simp, by simp [lcsL_nil]⟩
  | x :: a, [] => ⟨[], by simp, by simp, by simp [lcsL_nil']⟩
  | x :: a, y :: b => by
    by_cases h : x = y
    · subst h
      obtain ⟨c, h1, h2, h3⟩ := lcs_ex a b
      exact ⟨x :: c, h1.cons_cons x, h2.cons_cons x, by rw [lcsL_eq]; simp [h3]⟩
    · rw [lcsL_ne h]
      rcases Nat.le_total (lcsL a (y :: b)) (lcsL (x :: a) b) with hm | hm
      · obtain ⟨c, h1, h2, h3⟩ := lcs_ex (x :: a) b
        exact ⟨c, h1, h2.cons y, by rw [h3]; omega⟩
      · obtain ⟨c, h1, h2, h3⟩ := lcs_ex a (y :: b)
        exact ⟨c, h1.cons x, h2, by rw [h3]; omega⟩
termination_by a b => a.length + b.length
/-- and none that both have is longer -/
theorem lcs_le : ∀ (a b c : List α), c.Sublist a → c.Sublist b → c.length ≤ lcsL a b
  | [], b, c, h, _ => by simp at h; subst h; simp
  | x :: a, [], c, _, h => by simp at h; subst h; simp
  | x :: a, y :: b, c, h1, h2 => by
    by_cases h : x = y
    · subst h
      rw [lcsL_eq]
      rcases List.sublist_cons_iff.1 h1 with h3 | ⟨r, rfl, h3⟩
      · rcases List.sublist_cons_iff.1 h2 with h4 | ⟨r, rfl, h4⟩
        · exact Nat.le_succ_of_le (lcs_le a b c h3 h4)
        · have := lcs_le a b r ((List.sublist_cons_self x r).trans h3) h4
          simp; omega
      · have h4 : r.Sublist b := List.cons_sublist_cons.1 h2
        have := lcs_le a b r h3 h4
        simp; omega
    · rw [lcsL_ne h]
      rcases List.sublist_cons_iff.1 h1 with h3 | ⟨r, rfl, h3⟩
      · exact Nat.le_trans (lcs_le a (y :: b) c h3 h2) (Nat.le_max_left _ _)
      · rcases List.sublist_cons_iff.1 h2 with h4 | ⟨r', e, h4⟩
        · exact Nat.le_trans (lcs_le (x :: a) b (x :: r) h1 h4) (Nat.le_max_right _ _)
        · exact absurd (by simpa using (List.cons.inj e).1) h
termination_by a b => a.length + b.length

theorem lcs_ge_of {a b : List α} {n : Nat} (c : List α) (h1 : c.Sublist a) (h2 : c.Sublist b) (h3 : n ≤ c.length) : n ≤ lcsL a b := Nat.le_trans h3 (lcs_le a b c h1 h2)
theorem lcs_comm (a b : List α) : lcsL a b = lcsL b a := by
  obtain ⟨c, h1, h2, h3⟩ := lcs_ex a b
  obtain ⟨d, k1, k2, k3⟩ := lcs_ex b a
  have := lcs_le b a c h2 h1
  have := lcs_le a b d k2 k1
  omega
theorem lcs_self (a : List α) : lcsL a a = a.length := by
  obtain ⟨c, h1, _, h3⟩ := lcs_ex a a
  have := lcs_le a a a (List.Sublist.refl _) (List.Sublist.refl _)
  have := h1.length_le
  omega
theorem lcs_mono {a a' b b' : List α} (ha : a.Sublist a') (hb : b.Sublist b') : lcsL a b ≤ lcsL a' b' := by
  obtain ⟨c, h1, h2, h3⟩ := lcs_ex a b
  exact lcs_ge_of c (h1.trans ha) (h2.trans hb) (by omega)
theorem lcs_cons_le (x : α) (a b : List α) : lcsL (x :: a) b ≤ lcsL a b + 1 := by
  obtain ⟨c, h1, h2, h3⟩ := lcs_ex (x :: a) b
  rcases List.sublist_cons_iff.1 h1 with h | ⟨r, rfl, h⟩
  · have := lcs_le a b c h h2; omega
  · have := lcs_le a b r h ((List.sublist_cons_self x r).trans h2)
    simp at h3; omega
theorem lcs_cons_le' (y : α) (a b : List α) : lcsL a (y :: b) ≤ lcsL a b + 1 := by
  rw [lcs_comm, lcs_comm a b]; exact lcs_cons_le y b a
theorem lcs_snoc_le (x : α) (a b : List α) : lcsL (a ++ [x]) b ≤ lcsL a b + 1 := by
  obtain ⟨c, h1, h2, h3⟩ := lcs_ex (a ++ [x]) b
  obtain ⟨c1, c2, rfl, h4, h5⟩ := List.sublist_append_iff.1 h1
  have := lcs_le a b c1 h4 ((List.sublist_append_left c1 c2).trans h2)
  have := h5.length_le
  simp at h3 this; omega
theorem lcs_snoc_ge (x : α) (a b : List α) : lcsL a b ≤ lcsL (a ++ [x]) b := lcs_mono (List.sublist_append_left _ _) (List.Sublist.refl _)
theorem lcs_cons_ge' (y : α) (a b : List α) : lcsL a b ≤ lcsL a (y :: b) := lcs_mono (List.Sublist.refl _) (List.sublist_cons_self _ _)
theorem lcs_cons_ge (x : α) (a b : List α) : lcsL a b ≤ lcsL (x :: a) b := lcs_mono (List.sublist_cons_self _ _) (List.Sublist.refl _)
theorem lcs_snoc_both (x : α) (a b : List α) : lcsL (a ++ [x]) (b ++ [x]) = lcsL a b + 1 := by
  obtain ⟨c, h1, h2, h3⟩ := lcs_ex a b
  have h4 := lcs_le (a ++ [x]) (b ++ [x]) (c ++ [x]) (h1.append (List.Sublist.refl _)) (h2.append (List.Sublist.refl _))
  obtain ⟨d, k1, k2, k3⟩ := lcs_ex (a ++ [x]) (b ++ [x])
  obtain ⟨d1, d2, rfl, k4, k5⟩ := List.sublist_append_iff.1 k1
  have k6 := k5.length_le
  have k7 : d1.length + d2.length ≤ lcsL a b + 1 := by
    obtain ⟨e1, e2, he, m1, m2⟩ := List.sublist_append_iff.1 k2
    have m3 := m2.length_le
    have hl : d1.length + d2.length = e1.length + e2.length := by rw [← List.length_append, ← List.length_append, he]
    by_cases hd : d1.length ≤ e1.length
    · have hp : d1.Sublist e1 := by
        have : d1 = e1.take d1.length := by
          have := congrArg (List.take d1.length) he
          rw [List.take_append_of_le_length (Nat.le_refl _), List.take_length, List.take_append_of_le_length hd] at this
          exact this
        rw [this]; exact List.take_sublist _ _
      have := lcs_le a b d1 k4 (hp.trans m1)
      simp at k6; omega
    · have hp : e1.Sublist d1 := by
        have : e1 = d1.take e1.length := by
          have := congrArg (List.take e1.length) he
          rw [List.take_append_of_le_length (by omega), List.take_append_of_le_length (Nat.le_refl _), List.take_length] at this
          exact this.symm
        rw [this]; exact List.take_sublist _ _
      have := lcs_le a b e1 (hp.trans k4) m1
      simp at m3; omega
  simp at h4 k3; omega

/-- the table's entry: what the ends of both lists have in common -/
def lcsT (a b : List α) (i j : Nat) : Nat := lcsL (a.drop i) (b.drop j)
theorem lcsT_end (a b : List α) (i j : Nat) (h : a.length ≤ i ∨ b.length ≤ j) : lcsT a b i j = 0 := by
  unfold lcsT
  rcases h with h | h
  · rw [List.drop_eq_nil_of_le h, lcsL_nil]
  · rw [List.drop_eq_nil_of_le h, lcsL_nil']
theorem lcsT_eq {a b : List α} {i j : Nat} (hi : i < a.length) (hj : j < b.length) (h : a[i] = b[j]) : lcsT a b i j = lcsT a b (i + 1) (j + 1) + 1 := by
  unfold lcsT
  rw [List.drop_eq_getElem_cons hi, List.drop_eq_getElem_cons hj, h, lcsL_eq]
theorem lcsT_ne {a b : List α} {i j : Nat} (hi : i < a.length) (hj : j < b.length) (h : a[i] ≠ b[j]) : lcsT a b i j = max (lcsT a b (i + 1) j) (lcsT a b i (j + 1)) := by
  unfold lcsT
  rw [List.drop_eq_getElem_cons hi, List.drop_eq_getElem_cons hj, lcsL_ne h]
theorem lcsT_le (a b : List α) (i j : Nat) : lcsT a b i j ≤ a.length - i := by
  obtain ⟨c, h1, _, h3⟩ := lcs_ex (a.drop i) (b.drop j)
  have := h1.length_le
  simp at this; unfold lcsT; omega
theorem lcsT_max {a b : List α} {i j : Nat} (hi : i < a.length) (hj : j < b.length) : lcsT a b (i + 1) j ≤ lcsT a b (i + 1) (j + 1) + 1 ∧ lcsT a b i (j + 1) ≤ lcsT a b (i + 1) (j + 1) + 1 := by
  unfold lcsT
  rw [List.drop_eq_getElem_cons hi, List.drop_eq_getElem_cons hj]
  exact ⟨lcs_cons_le' _ _ _, lcs_cons_le _ _ _⟩

/-- the pairs, from two places on -/
def lcsM (a b : List α) (i j : Nat) : List (Nat × Nat) :=
  if h : i < a.length ∧ j < b.length then
    if a[i]'h.1 = b[j]'h.2 then (i, j) :: lcsM a b (i + 1) (j + 1)
    else if lcsT a b (i + 1) j ≥ lcsT a b i (j + 1) then lcsM a b (i + 1) j else lcsM a b i (j + 1)
  else []
termination_by (a.length - i) + (b.length - j)
theorem lcsM_end {a b : List α} {i j : Nat} (h : ¬ (i < a.length ∧ j < b.length)) : lcsM a b i j = [] := by rw [lcsM, dif_neg h]
theorem lcsM_eq {a b : List α} {i j : Nat} (hi : i < a.length) (hj : j < b.length) (h : a[i] = b[j]) : lcsM a b i j = (i, j) :: lcsM a b (i + 1) (j + 1) := by rw [lcsM, dif_pos ⟨hi, hj⟩, if_pos h]
theorem lcsM_down {a b : List α} {i j : Nat} (hi : i < a.length) (hj : j < b.length) (h : a[i] ≠ b[j]) (hg : lcsT a b i (j + 1) ≤ lcsT a b (i + 1) j) : lcsM a b i j = lcsM a b (i + 1) j := by
  rw [lcsM, dif_pos ⟨hi, hj⟩, if_neg h, if_pos hg]
theorem lcsM_right {a b : List α} {i j : Nat} (hi : i < a.length) (hj : j < b.length) (h : a[i] ≠ b[j]) (hg : ¬ lcsT a b i (j + 1) ≤ lcsT a b (i + 1) j) : lcsM a b i j = lcsM a b i (j + 1) := by
  rw [lcsM, dif_pos ⟨hi, hj⟩, if_neg h, if_neg hg]
theorem lcsM_len (a b : List α) : ∀ (i j : Nat), (lcsM a b i j).length = lcsT a b i j := by
  intro i j
  by_cases h : i < a.length ∧ j < b.length
  · obtain ⟨hi, hj⟩ := h
    by_cases he : a[i] = b[j]
    · rw [lcsM_eq hi hj he, lcsT_eq hi hj he, List.length_cons, lcsM_len a b (i + 1) (j + 1)]
    · rw [lcsT_ne hi hj he]
      by_cases hg : lcsT a b i (j + 1) ≤ lcsT a b (i + 1) j
      · rw [lcsM_down hi hj he hg, lcsM_len a b (i + 1) j]; omega
      · rw [lcsM_right hi hj he hg, lcsM_len a b i (j + 1)]; omega
  · rw [lcsM_end h, lcsT_end a b i j (by omega)]; rfl
termination_by i j => (a.length - i) + (b.length - j)
/-- each pair lies in both, is of the same, and they rise in both -/
theorem lcsM_mem (a b : List α) : ∀ (i j : Nat), ∀ p ∈ lcsM a b i j, i ≤ p.1 ∧ j ≤ p.2 ∧ ∃ (h1 : p.1 < a.length) (h2 : p.2 < b.length), a[p.1] = b[p.2] := by
  intro i j p hp
  by_cases h : i < a.length ∧ j < b.length
  · obtain ⟨hi, hj⟩ := h
    by_cases he : a[i] = b[j]
    · rw [lcsM_eq hi hj he] at hp
      rcases List.mem_cons.1 hp with rfl | hp
      · exact ⟨Nat.le_refl _, Nat.le_refl _, hi, hj, he⟩
      · have := lcsM_mem a b (i + 1) (j + 1) p hp
        exact ⟨by omega, by omega, this.2.2⟩
    · by_cases hg : lcsT a b i (j + 1) ≤ lcsT a b (i + 1) j
      · rw [lcsM_down hi hj he hg] at hp
        have := lcsM_mem a b (i + 1) j p hp
        exact ⟨by omega, by omega, this.2.2⟩
      · rw [lcsM_right hi hj he hg] at hp
        have := lcsM_mem a b i (j + 1) p hp
        exact ⟨by omega, by omega, this.2.2⟩
  · rw [lcsM_end h] at hp; cases hp
termination_by i j => (a.length - i) + (b.length - j)
theorem lcsM_rise (a b : List α) : ∀ (i j : Nat), (lcsM a b i j).Pairwise fun p q => p.1 < q.1 ∧ p.2 < q.2 := by
  intro i j
  by_cases h : i < a.length ∧ j < b.length
  · obtain ⟨hi, hj⟩ := h
    by_cases he : a[i] = b[j]
    · rw [lcsM_eq hi hj he]
      refine List.pairwise_cons.2 ⟨fun q hq => ?_, lcsM_rise a b (i + 1) (j + 1)⟩
      have := lcsM_mem a b (i + 1) (j + 1) q hq
      exact ⟨by show i < q.1; omega, by show j < q.2; omega⟩
    · by_cases hg : lcsT a b i (j + 1) ≤ lcsT a b (i + 1) j
      · rw [lcsM_down hi hj he hg]; exact lcsM_rise a b (i + 1) j
      · rw [lcsM_right hi hj he hg]; exact lcsM_rise a b i (j + 1)
  · rw [lcsM_end h]; exact List.Pairwise.nil
termination_by i j => (a.length - i) + (b.length - j)
end
end Go.Proofs.Ytlebhalaodmkhaa
