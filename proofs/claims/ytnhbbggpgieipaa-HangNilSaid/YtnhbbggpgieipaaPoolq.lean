/- Whoever comes first, the same waits; what waits is in the hint: plain laws. -/
import Derived.Test.YtnhbbggpgieipaaPools
import Derived.Test.YtnhbbggpgieipaaHints
namespace Go.Proofs.Ytnhbbggpgieipaa
open Go.RowKit

theorem bit_putN {xs : List Nat} (h : BlOk xs) (p : PidV) (r : Nat) (hr : bitAt xs r = true) : ∀ k, bitAt (putN xs p k) r = true
  | 0 => hr
  | k + 1 => by
    show bitAt (putBit (putN xs p k) (placeN p k)) r = true
    rw [bit_put (putN_ok h p k) (placeN_lt p k), bit_putN h p r hr k]; rfl
theorem bit_putP {xs : List Nat} (h : BlOk xs) (p : PidV) {j : Nat} : ∀ k, j < k → bitAt (putN xs p k) (placeN p j) = true
  | 0, hj => by omega
  | k + 1, hj => by
    show bitAt (putBit (putN xs p k) (placeN p k)) (placeN p j) = true
    rw [bit_put (putN_ok h p k) (placeN_lt p k)]
    rcases Nat.lt_or_ge j k with hlt | hge
    · rw [bit_putP h p k hlt]; rfl
    · have : j = k := by omega
      subst this
      simp
theorem hasN_put {xs : List Nat} (h : BlOk xs) (p : PidV) : hasN (putN xs p 3) p = true := by
  unfold hasN
  rw [bit_putP h p 3 (by omega : 0 < 3), bit_putP h p 3 (by omega : 1 < 3), bit_putP h p 3 (by omega : 2 < 3)]; rfl
theorem hasN_mono {xs : List Nat} (h : BlOk xs) (p q : PidV) (hq : hasN xs q = true) : hasN (putN xs p 3) q = true := by
  unfold hasN at hq ⊢
  simp only [Bool.and_eq_true] at hq ⊢
  exact ⟨bit_putN h p _ hq.1 3, bit_putN h p _ hq.2.1 3, bit_putN h p _ hq.2.2 3⟩
theorem hasN_go (q : PidV) : ∀ (l : List PidV) (xs : List Nat), BlOk xs → (hasN xs q = true ∨ q ∈ l) → hasN (l.foldl (fun xs p => putN xs p 3) xs) q = true
  | [], xs, _, h => h.elim id (fun h => by cases h)
  | p :: l, xs, hx, h => by
    refine hasN_go q l _ (putN_ok hx p 3) ?_
    rcases h with h | h
    · exact .inl (hasN_mono hx p q h)
    · rcases List.mem_cons.1 h with rfl | h
      · exact .inl (hasN_put hx q)
      · exact .inr h
/-- who waits is in the hint -/
theorem hasN_of {l : List PidV} {q : PidV} (h : q ∈ l) : hasN (ofN l) q = true := hasN_go q l zeroBl zeroBl_ok (.inr h)

theorem snoc_ind {α : Type} {P : List α → Prop} (h0 : P []) (hs : ∀ l a, P l → P (l ++ [a])) (l : List α) : P l := by
  have key : ∀ m : List α, P m.reverse := fun m => by
    induction m with
    | nil => exact h0
    | cons a m ih => rw [List.reverse_cons]; exact hs _ _ ih
  have := key l.reverse
  rwa [List.reverse_reverse] at this
/-- no two of one name that are unlike -/
def OneEach (l : List PatV) : Prop := ∀ p ∈ l, ∀ q ∈ l, p.1 = q.1 → p = q
/-- what waits when all of a list were put -/
def poolL (l : List PatV) : List PatV := l.foldl (polL 32) []
theorem poolL_snoc (l : List PatV) (p : PatV) : poolL (l ++ [p]) = polL 32 (poolL l) p := by unfold poolL; rw [List.foldl_append]; rfl
theorem polL_len (room : Int) (L : List PatV) (p : PatV) : (polL room L p).length ≤ L.length + 1 := by
  unfold polL
  split
  · rename_i h
    rw [insP_len (polE_zero h).2.1]; omega
  · omega
theorem poolL_len (l : List PatV) : (poolL l).length ≤ l.length := by
  refine snoc_ind (P := fun l => (poolL l).length ≤ l.length) (Nat.le_refl _) (fun l p ih => ?_) l
  · rw [poolL_snoc, List.length_append, List.length_singleton]
    have := polL_len 32 (poolL l) p
    omega
theorem poolL_ok (l : List PatV) : PolOk 32 (poolL l) := by
  refine snoc_ind (P := fun l => PolOk 32 (poolL l)) (PolOk.nil (by decide) (by decide)) (fun l p ih => ?_) l
  rw [poolL_snoc]; exact ih.put p
theorem poolL_mem {l m : List PatV} (h1 : OneEach l) (hs : ∀ p ∈ m, p ∈ l) (hn : m.length ≤ 32) (p : PatV) : p ∈ poolL m ↔ p ∈ m ∧ patB p = true := by
  revert hs hn p
  refine snoc_ind (P := fun m => (∀ p ∈ m, p ∈ l) → m.length ≤ 32 → ∀ p, p ∈ poolL m ↔ p ∈ m ∧ patB p = true) (fun _ _ p => by simp [poolL]) (fun m q ih => ?_) m
  · intro hs hn p
    rw [List.length_append, List.length_singleton] at hn
    have ih := fun p => ih (fun p hp => hs p (List.mem_append.2 (.inl hp))) (by omega) p
    have hq : q ∈ l := hs q (by simp)
    rw [poolL_snoc, List.mem_append, List.mem_singleton]
    have hlen := poolL_len m
    cases hg : patB q
    · have e : polL 32 (poolL m) q = poolL m := by unfold polL; rw [polE_1 hg]; rfl
      rw [e, ih]
      constructor
      · rintro ⟨a, b⟩; exact ⟨.inl a, b⟩
      · rintro ⟨a | rfl, b⟩
        · exact ⟨a, b⟩
        · rw [hg] at b; cases b
    · cases hf : findP (poolL m) q.1 with
      | some r =>
        obtain ⟨f1, f2⟩ := findP_some hf
        have hr := (ih r).1 f1
        have e0 : r = q := h1 r (hs r (List.mem_append.2 (.inl hr.1))) q hq f2
        have e : polL 32 (poolL m) q = poolL m := by unfold polL; rw [polE_7 hg hf e0]; rfl
        rw [e, ih]
        constructor
        · rintro ⟨a, b⟩; exact ⟨.inl a, b⟩
        · rintro ⟨a | rfl, b⟩
          · exact ⟨a, b⟩
          · exact ⟨e0 ▸ hr.1, b⟩
      | none =>
        have e : polL 32 (poolL m) q = insP (poolL m) q := by unfold polL; rw [polE_0 hg hf (by omega)]; rfl
        rw [e, mem_insP hf, ih]
        constructor
        · rintro (⟨a, b⟩ | rfl)
          · exact ⟨.inl a, b⟩
          · exact ⟨.inr rfl, hg⟩
        · rintro ⟨a | rfl, b⟩
          · exact .inl ⟨a, b⟩
          · exact .inr rfl
theorem rise_ext {L L' : List PatV} (h : L.Pairwise fun a b => keyP a.1 < keyP b.1) (h' : L'.Pairwise fun a b => keyP a.1 < keyP b.1) (hm : ∀ p, p ∈ L ↔ p ∈ L') : L = L' := by
  have hp : L.Perm L' := (List.perm_ext_iff_of_nodup (rise_nodup h) (rise_nodup h')).2 hm
  refine List.Perm.eq_of_pairwise (le := fun a b : PatV => keyP a.1 ≤ keyP b.1) (fun a b ha hb h1 h2 => ?_) (h.imp fun h => by omega) (h'.imp fun h => by omega) hp
  exact rise_key h ha (hp.mem_iff.2 hb) (keyP_inj _ _ (by omega))
/-- the first k of a list that is begun at a place -/
def rotL (l : List PatV) (f k : Nat) : List PatV := (List.range k).filterMap fun i => l[(i + f) % l.length]?
theorem rotL_snoc {l : List PatV} {f k : Nat} {p : PatV} (h : l[(k + f) % l.length]? = some p) : rotL l f (k + 1) = rotL l f k ++ [p] := by
  unfold rotL
  rw [List.range_succ, List.filterMap_append]
  simp [h]
theorem rotL_len (l : List PatV) (f k : Nat) : (rotL l f k).length ≤ k := by
  unfold rotL
  have := List.length_filterMap_le (fun i => l[(i + f) % l.length]?) (List.range k)
  simpa using this
theorem rotL_mem {l : List PatV} {f : Nat} (p : PatV) : p ∈ rotL l f l.length ↔ p ∈ l := by
  unfold rotL
  rw [List.mem_filterMap]
  constructor
  · rintro ⟨i, _, hi⟩; exact List.mem_of_getElem? hi
  · intro hp
    obtain ⟨j, hj, rfl⟩ := List.getElem_of_mem hp
    have hn : 0 < l.length := by omega
    have hf := Nat.mod_lt f hn
    have key : ∀ i, (i + f) % l.length = (i + f % l.length) % l.length := fun i => by rw [Nat.add_mod, Nat.add_mod i (f % l.length), Nat.mod_mod]
    rcases Nat.lt_or_ge j (f % l.length) with hlt | hge
    · refine ⟨j + l.length - f % l.length, List.mem_range.2 (by omega), ?_⟩
      rw [key, show j + l.length - f % l.length + f % l.length = j + l.length by omega, Nat.add_mod_right, Nat.mod_eq_of_lt hj]
      exact List.getElem?_eq_getElem hj
    · refine ⟨j - f % l.length, List.mem_range.2 (by omega), ?_⟩
      rw [key, show j - f % l.length + f % l.length = j by omega, Nat.mod_eq_of_lt hj]
      exact List.getElem?_eq_getElem hj
theorem pool_turn {l : List PatV} (h : OneEach l) (hn : l.length ≤ 20) (f : Nat) : poolL (rotL l f l.length) = poolL l := by
  refine rise_ext (poolL_ok _).rise (poolL_ok _).rise fun p => ?_
  rw [poolL_mem h (fun p hp => (rotL_mem p).1 hp) (by have := rotL_len l f l.length; omega), poolL_mem h (fun _ h => h) (by omega), rotL_mem]
/-- what is ready is not had -/
theorem ready_lacks {v : List Int} (hv : VecOk v) {p : PatV} (h : fitB v p = true) : hasP v p.1 = false := by
  unfold fitB at h
  rw [Bool.and_eq_true] at h
  have h := h.1
  unfold nextB nextV at h
  unfold hasP hasV
  have hb := ofV_bd hv p.1.1.val
  by_cases hc : inV p.1.1.val = true ∧ ofV v p.1.1.val < 60000
  · rw [if_pos hc] at h
    simp only [Bool.and_eq_true, decide_eq_true_eq] at h
    rw [hc.1, Bool.true_and, decide_eq_false_iff_not]
    omega
  · rw [if_neg hc] at h
    simp only [Bool.and_eq_true, decide_eq_true_eq] at h
    have hi : inV p.1.1.val = false := by
      unfold inV
      rw [decide_eq_false_iff_not]
      omega
    rw [hi]; rfl
theorem readyL_some {v : List Int} {L : List PatV} {p : PatV} (h : readyL v L = some p) : p ∈ L ∧ fitB v p = true := by
  unfold readyL at h
  exact ⟨List.mem_of_find?_eq_some h, List.find?_some h⟩
theorem dropL_gone (L : List PatV) (d : PidV) : findP (dropL L d) d = none := by
  rw [findP_none]
  intro p hp
  unfold dropL at hp
  simpa using (List.mem_filter.1 hp).2
end Go.Proofs.Ytnhbbggpgieipaa
