/- Stable sorting by merging in place: plain laws; no program in sight. -/
import Derived.Test.YtihggkmjalofiaaGreatDoorGen
import Derived.Shelf.SlSortCmp.WholeK
namespace Go.Proofs.YtihggkmjalofiaaGreatDoor

/-! ## parts of a row that is given as a function -/
def sgF {α : Type} (D : Nat → α) (a b : Nat) : List α := (List.range' a (b - a)).map D
section
variable {α : Type} {D D' : Nat → α} {a m b : Nat}
theorem sgF_cat (h1 : a ≤ m) (h2 : m ≤ b) : sgF D a m ++ sgF D m b = sgF D a b := by
 unfold sgF
 rw [← List.map_append]
 congr 1
 have e : b - a = (m - a) + (b - m) := by omega
 have e2 : m = a + (m - a) := by omega
 rw [e, ← List.range'_append_1, ← e2]
theorem sgF_one : sgF D a (a + 1) = [D a] := by
 unfold sgF
 rw [show a + 1 - a = 1 by omega]
 rfl
theorem sgF_shift {a b a' b' : Nat} (hl : b' - a' = b - a) (h : ∀ x, a ≤ x → x < b → D' (x - a + a') = D x) : sgF D' a' b' = sgF D a b := by
 unfold sgF
 rw [hl]
 apply List.ext_getElem?
 intro i
 rw [List.getElem?_map, List.getElem?_map]
 by_cases hi : i < b - a
 ·rw [List.getElem?_range' hi, List.getElem?_range' hi]
  simp only [Option.map_some, Nat.one_mul]
  have := h (a + i) (by omega) (by omega)
  rw [show a + i - a + a' = a' + i by omega] at this
  rw [this]
 ·rw [List.getElem?_eq_none (by rw [List.length_range']; omega), List.getElem?_eq_none (by rw [List.length_range']; omega)]
  rfl
theorem sgF_same (h : ∀ x, a ≤ x → x < b → D' x = D x) : sgF D' a b = sgF D a b := sgF_shift rfl fun x h1 h2 => by rw [show x - a + a = x by omega]; exact h x h1 h2
theorem sgF_mem {x : α} : x ∈ sgF D a b ↔ ∃ i, a ≤ i ∧ i < b ∧ D i = x := by
 unfold sgF
 rw [List.mem_map]
 constructor
 ·rintro ⟨i, hi, rfl⟩
  rw [List.mem_range'_1] at hi
  exact ⟨i, hi.1, by omega, rfl⟩
 ·rintro ⟨i, h1, h2, rfl⟩
  exact ⟨i, by rw [List.mem_range'_1]; omega, rfl⟩
end

/-! ## sorted, and with the same of each key in the same order -/
section
variable {α : Type} (k : α → Int)
def SrF (D : Nat → α) (a b : Nat) : Prop := ∀ i j, a ≤ i → i ≤ j → j < b → k (D j) ≤ k (D i)
def flF (c : Int) (l : List α) : List α := l.filter fun x => decide (k x = c)
structure FiF (D D' : Nat → α) (a b : Nat) : Prop where
 out : ∀ x, x < a ∨ b ≤ x → D' x = D x
 fil : ∀ c, flF k c (sgF D' a b) = flF k c (sgF D a b)
variable {k} {D D' D'' : Nat → α} {a m b p q : Nat}
theorem flF_app (c : Int) (l m : List α) : flF k c (l ++ m) = flF k c l ++ flF k c m := List.filter_append ..
theorem flF_none {c : Int} {l : List α} (h : ∀ x ∈ l, k x ≠ c) : flF k c l = [] := by
 unfold flF
 rw [List.filter_eq_nil_iff]
 intro x hx
 simpa using h x hx
theorem FiF.refl : FiF k D D a b := ⟨fun _ _ => rfl, fun _ => rfl⟩
theorem FiF.trans (h : FiF k D D' a b) (h2 : FiF k D' D'' a b) : FiF k D D'' a b := ⟨fun x hx => (h2.out x hx).trans (h.out x hx), fun c => (h2.fil c).trans (h.fil c)⟩
theorem FiF.widen (h : FiF k D D' a b) (h1 : p ≤ a) (h2 : b ≤ q) (h3 : a ≤ b) : FiF k D D' p q := by
 refine ⟨fun x hx => h.out x (by omega), fun c => ?_⟩
 rw [← sgF_cat (D := D') h1 (Nat.le_trans h3 h2), ← sgF_cat (D := D) h1 (Nat.le_trans h3 h2), ← sgF_cat (D := D') h3 h2, ← sgF_cat (D := D) h3 h2]
 rw [flF_app, flF_app, flF_app, flF_app, h.fil c, sgF_same (D' := D') (D := D) fun x _ h2 => h.out x (by omega), sgF_same (D' := D') (D := D) fun x h1 _ => h.out x (by omega)]
theorem SrF.same (h : SrF k D a b) (e : ∀ x, a ≤ x → x < b → D' x = D x) : SrF k D' a b := fun i j h1 h2 h3 => by rw [e j (by omega) h3, e i h1 (by omega)]; exact h i j h1 h2 h3
theorem SrF.sub (h : SrF k D a b) (h1 : a ≤ p) (h2 : q ≤ b) : SrF k D p q := fun i j h3 h4 h5 => h i j (by omega) h4 (by omega)
theorem SrF.one : SrF k D a (a + 1) := fun i j h1 h2 h3 => by rw [show i = j by omega]; exact Int.le_refl _
theorem SrF.none (h : b ≤ a) : SrF k D a b := fun i j h1 h2 h3 => by omega

/-- what stands behind sorted ones goes to its place -/
theorem ins_back {i : Nat} (hs : SrF k D a m) (h1 : a ≤ i) (h2 : i ≤ m) (hge : ∀ x, a ≤ x → x < i → k (D m) ≤ k (D x)) (hlt : ∀ x, i ≤ x → x < m → k (D x) < k (D m)) (e : ∀ x, D' x = if x = i then D m else if i < x ∧ x ≤ m then D (x - 1) else D x) :
  FiF k D D' a (m + 1) ∧ SrF k D' a (m + 1) := by
 have eA : sgF D' a i = sgF D a i := sgF_same fun x _ h => by rw [e, if_neg (by omega), if_neg (by omega)]
 have eB : sgF D' i (i + 1) = [D m] := by rw [sgF_one, e, if_pos rfl]
 have eC : sgF D' (i + 1) (m + 1) = sgF D i m := sgF_shift (by omega) fun x h3 h4 => by rw [e, if_neg (by omega), if_pos (by omega)]; congr 1; omega
 refine ⟨⟨fun x hx => by rw [e, if_neg (by omega), if_neg (by omega)], fun c => ?_⟩, fun x y h3 h4 h5 => ?_⟩
 ·rw [← sgF_cat (D := D') h1 (show i ≤ m + 1 by omega), ← sgF_cat (D := D') (show i ≤ i + 1 by omega) (show i + 1 ≤ m + 1 by omega), eA, eB, eC,
   ← sgF_cat (D := D) (show a ≤ m by omega) (show m ≤ m + 1 by omega), ← sgF_cat (D := D) h1 h2, sgF_one]
  simp only [flF_app]
  by_cases hc : k (D m) = c
  ·rw [flF_none (l := sgF D i m) fun x hx => by obtain ⟨j, h6, h7, rfl⟩ := sgF_mem.1 hx; have := hlt j h6 h7; omega]
   simp
  ·rw [flF_none (l := [D m]) fun x hx => by rw [List.mem_singleton] at hx; subst hx; exact hc]
   simp
 ·rw [e y, e x]
  split
  ·split
   ·omega
   ·split
    ·omega
    ·exact hge x h3 (by omega)
  ·split
   ·split
    ·have := hlt (y - 1) (by omega) (by omega); omega
    ·split
     ·exact hs (x - 1) (y - 1) (by omega) (by omega) (by omega)
     ·exact hs x (y - 1) h3 (by omega) (by omega)
   ·split
    ·omega
    ·split
     ·omega
     ·by_cases hm : y < m
      ·exact hs x y h3 h4 hm
      ·omega
/-- what stands ahead of sorted ones goes to its place -/
theorem ins_front {i : Nat} (hs : SrF k D (a + 1) b) (h1 : a + 1 ≤ i) (h2 : i ≤ b) (hgt : ∀ x, a + 1 ≤ x → x < i → k (D a) < k (D x)) (hle : ∀ x, i ≤ x → x < b → k (D x) ≤ k (D a)) (e : ∀ x, D' x = if a ≤ x ∧ x < i - 1 then D (x + 1) else if x = i - 1 then D a else D x) :
  FiF k D D' a b ∧ SrF k D' a b := by
 have eA : sgF D' a (i - 1) = sgF D (a + 1) i := sgF_shift (by omega) fun x h3 h4 => by rw [e, if_pos (by omega)]; congr 1; omega
 have eB : sgF D' (i - 1) i = [D a] := by rw [show sgF D' (i - 1) i = sgF D' (i - 1) (i - 1 + 1) by rw [show i - 1 + 1 = i by omega], sgF_one, e, if_neg (by omega), if_pos rfl]
 have eC : sgF D' i b = sgF D i b := sgF_same fun x h3 h4 => by rw [e, if_neg (by omega), if_neg (by omega)]
 refine ⟨⟨fun x hx => by rw [e, if_neg (by omega), if_neg (by omega)], fun c => ?_⟩, fun x y h3 h4 h5 => ?_⟩
 ·rw [← sgF_cat (D := D') (show a ≤ i - 1 by omega) (show i - 1 ≤ b by omega), ← sgF_cat (D := D') (show i - 1 ≤ i by omega) h2, eA, eB, eC,
   ← sgF_cat (D := D) (show a ≤ a + 1 by omega) (show a + 1 ≤ b by omega), ← sgF_cat (D := D) h1 h2, sgF_one]
  simp only [flF_app]
  by_cases hc : k (D a) = c
  ·rw [flF_none (l := sgF D (a + 1) i) fun x hx => by obtain ⟨j, h6, h7, rfl⟩ := sgF_mem.1 hx; have := hgt j h6 h7; omega]
   simp
  ·rw [flF_none (l := [D a]) fun x hx => by rw [List.mem_singleton] at hx; subst hx; exact hc]
   simp
 ·rw [e y, e x]
  split
  ·split
   ·exact hs (x + 1) (y + 1) (by omega) (by omega) (by omega)
   ·split <;> omega
  ·split
   ·split
    ·have := hgt (x + 1) (by omega) (by omega); omega
    ·split
     ·omega
     ·omega
   ·split
    ·have := hle y (by omega) h5
     have := hgt (x + 1) (by omega) (by omega)
     omega
    ·split
     ·exact hle y (by omega) h5
     ·exact hs x y (by omega) h4 h5
/-- the parts [p, m) and [m, q) change places -/
def rotF (D : Nat → α) (p m q : Nat) : Nat → α := fun x => if p ≤ x ∧ x < p + (q - m) then D (x - p + m) else if p + (q - m) ≤ x ∧ x < q then D (x - (q - m)) else D x
theorem rotF_out (h1 : p ≤ m) (h2 : m ≤ q) {x : Nat} (h : x < p ∨ q ≤ x) : rotF D p m q x = D x := by unfold rotF; rw [if_neg (by omega), if_neg (by omega)]
theorem rotF_none1 : rotF D m m q = D := by
 funext x
 unfold rotF
 split
 ·congr 1; omega
 ·split
  ·omega
  ·rfl
theorem rotF_none2 : rotF D p m m = D := by
 funext x
 unfold rotF
 split
 ·omega
 ·split
  ·congr 1; omega
  ·rfl
theorem sgF_rot1 (h2 : m ≤ q) : sgF (rotF D p m q) p (p + (q - m)) = sgF D m q := sgF_shift (by omega) fun x h3 h4 => by
 unfold rotF
 rw [if_pos (by omega)]
 congr 1; omega
theorem sgF_rot2 (h1 : p ≤ m) (h2 : m ≤ q) : sgF (rotF D p m q) (p + (q - m)) q = sgF D p m := sgF_shift (by omega) fun x h3 h4 => by
 unfold rotF
 rw [if_neg (by omega), if_pos (by omega)]
 congr 1; omega
/-- two sorted parts are merged by halves -/
theorem sym_half {start : Nat} {mid q : Nat} {D1 D2 : Nat → α} (hA : SrF k D a m) (hB : SrF k D m b) (h1 : a ≤ start) (h2 : start ≤ m) (h3 : m ≤ q) (h4 : q ≤ b) (hm : start + (q - m) = mid)
  (hlt : start = m ∨ q = m ∨ k (D start) < k (D (q - 1))) (hge : start = a ∨ q = b ∨ k (D q) ≤ k (D (start - 1)))
  (f1 : FiF k (rotF D start m q) D1 a mid) (s1 : SrF k D1 a mid) (f2 : FiF k D1 D2 mid b) (s2 : SrF k D2 mid b) : FiF k D D2 a b ∧ SrF k D2 a b := by
 have r1 := sgF_rot1 (D := D) (p := start) h3
 have r2 := sgF_rot2 (D := D) h2 h3
 rw [hm] at r1 r2
 have eL : sgF (rotF D start m q) a mid = sgF D a start ++ sgF D m q := by
  rw [← sgF_cat (D := rotF D start m q) h1 (show start ≤ mid by omega), r1, sgF_same (D' := rotF D start m q) (D := D) fun x _ h => rotF_out h2 h3 (by omega)]
 have eR : sgF (rotF D start m q) mid b = sgF D start m ++ sgF D q b := by
  rw [← sgF_cat (D := rotF D start m q) (show mid ≤ q by omega) h4, r2, sgF_same (D' := rotF D start m q) (D := D) fun x h _ => rotF_out h2 h3 (by omega)]
 have cross : ∀ x ∈ sgF D start m, ∀ y ∈ sgF D m q, k x < k y := by
  intro x hx y hy
  obtain ⟨i, h5, h6, rfl⟩ := sgF_mem.1 hx
  obtain ⟨j, h7, h8, rfl⟩ := sgF_mem.1 hy
  have e1 := hA start i h1 h5 h6
  have e2 := hB j (q - 1) h7 (by omega) (by omega)
  rcases hlt with h | h | h <;> omega
 have f12 : FiF k (rotF D start m q) D2 a b := (f1.widen (Nat.le_refl _) (show mid ≤ b by omega) (by omega)).trans (f2.widen (show a ≤ mid by omega) (Nat.le_refl _) (by omega))
 have low : ∀ x, a ≤ x → x < mid → ∀ y, mid ≤ y → y < b → k (D2 y) ≤ k (D2 x) := by
  intro x h5 h6 y h7 h8
  have ex : D2 x ∈ sgF D a start ++ sgF D m q := by
   rw [f2.out x (by omega), ← eL]
   have hx : D1 x ∈ flF k (k (D1 x)) (sgF D1 a mid) := List.mem_filter.2 ⟨sgF_mem.2 ⟨x, h5, h6, rfl⟩, by simp⟩
   rw [f1.fil] at hx
   exact (List.mem_filter.1 hx).1
  have ey : D2 y ∈ sgF D start m ++ sgF D q b := by
   have hy : D2 y ∈ flF k (k (D2 y)) (sgF D2 mid b) := List.mem_filter.2 ⟨sgF_mem.2 ⟨y, h7, h8, rfl⟩, by simp⟩
   rw [f2.fil, sgF_same (D' := D1) (D := rotF D start m q) (fun x h _ => f1.out x (by omega)), eR] at hy
   exact (List.mem_filter.1 hy).1
  generalize D2 x = X at *
  generalize D2 y = Y at *
  rw [List.mem_append] at ex ey
  rcases ex with ex | ex
  ·obtain ⟨i, h9, h10, rfl⟩ := sgF_mem.1 ex
   rcases ey with ey | ey
   ·obtain ⟨j, h11, h12, rfl⟩ := sgF_mem.1 ey
    exact hA i j h9 (by omega) h12
   ·obtain ⟨j, h11, h12, rfl⟩ := sgF_mem.1 ey
    have e1 := hA i (start - 1) h9 (by omega) (by omega)
    have e2 := hB q j h3 h11 h12
    rcases hge with h | h | h <;> omega
  ·rcases ey with ey | ey
   ·exact Int.le_of_lt (cross Y ey X ex)
   ·obtain ⟨i, h9, h10, rfl⟩ := sgF_mem.1 ex
    obtain ⟨j, h11, h12, rfl⟩ := sgF_mem.1 ey
    exact hB i j h9 (by omega) h12
 refine ⟨⟨fun x hx => (f12.out x hx).trans (rotF_out h2 h3 (by omega)), fun c => ?_⟩, fun x y h5 h6 h7 => ?_⟩
 ·rw [f12.fil c, ← sgF_cat (D := rotF D start m q) (show a ≤ mid by omega) (show mid ≤ b by omega), eL, eR, ← sgF_cat (D := D) (show a ≤ m by omega) (show m ≤ b by omega), ← sgF_cat (D := D) h1 h2, ← sgF_cat (D := D) h3 h4]
  simp only [flF_app, List.append_assoc]
  congr 1
  rw [← List.append_assoc, ← List.append_assoc]
  congr 1
  by_cases hx : ∃ x ∈ sgF D start m, k x = c
  ·obtain ⟨x, hx, hc⟩ := hx
   rw [flF_none (l := sgF D m q) fun y hy => by have := cross x hx y hy; omega]
   simp
  ·rw [flF_none (l := sgF D start m) fun x hx2 hc => hx ⟨x, hx2, hc⟩]
   simp
 ·by_cases hy : y < mid
  ·have := s1 x y h5 h6 hy
   rw [f2.out y (by omega), f2.out x (by omega)]
   exact this
  ·by_cases hx : x < mid
   ·exact low x h5 hx y (by omega) h7
   ·exact s2 x y (by omega) h6 h7
/-- sorted, and the same of each key: there is one such list -/
theorem sorted_one : ∀ (l l' : List α), l.Pairwise (fun x y => k y ≤ k x) → l'.Pairwise (fun x y => k y ≤ k x) → (∀ c, flF k c l = flF k c l') → l = l'
 | [], l', _, _, h => by
  cases l' with
  | nil => rfl
  | cons y t => have := h (k y); unfold flF at this; simp at this
 | x :: t, [], _, _, h => by have := h (k x); unfold flF at this; simp at this
 | x :: t, y :: t', hl, hl', h => by
  have hx : x ∈ y :: t' := by
   have : x ∈ flF k (k x) (x :: t) := List.mem_filter.2 ⟨List.mem_cons_self .., by simp⟩
   rw [h] at this
   exact (List.mem_filter.1 this).1
  have hy : y ∈ x :: t := by
   have : y ∈ flF k (k y) (y :: t') := List.mem_filter.2 ⟨List.mem_cons_self .., by simp⟩
   rw [← h] at this
   exact (List.mem_filter.1 this).1
  have e1 : k x ≤ k y := by
   rcases List.mem_cons.1 hx with rfl | hx
   ·exact Int.le_refl _
   ·exact (List.pairwise_cons.1 hl').1 x hx
  have e2 : k y ≤ k x := by
   rcases List.mem_cons.1 hy with rfl | hy
   ·exact Int.le_refl _
   ·exact (List.pairwise_cons.1 hl).1 y hy
  have ek : k x = k y := by omega
  have hh := h (k x)
  have exy : x = y := by
   unfold flF at hh
   rw [List.filter_cons_of_pos (by simp), List.filter_cons_of_pos (by simp [ek])] at hh
   exact (List.cons.inj hh).1
  subst exy
  congr 1
  refine sorted_one t t' (List.pairwise_cons.1 hl).2 (List.pairwise_cons.1 hl').2 fun c => ?_
  have hc := h c
  unfold flF at hc ⊢
  by_cases e : k x = c
  ·rw [List.filter_cons_of_pos (by simpa using e), List.filter_cons_of_pos (by simpa using e)] at hc
   exact (List.cons.inj hc).2
  ·rw [List.filter_cons_of_neg (by simpa using e), List.filter_cons_of_neg (by simpa using e)] at hc
   exact hc
theorem SrF.pair (h : SrF k D a b) : (sgF D a b).Pairwise fun x y => k y ≤ k x := by
 unfold sgF
 rw [List.pairwise_map]
 refine List.Pairwise.imp_of_mem ?_ (List.pairwise_lt_range' (s := a) (n := b - a))
 intro i j hi hj hij
 rw [List.mem_range'_1] at hi hj
 exact h i j hi.1 (by omega) (by omega)
end

/-! ## the document's: each goes ahead of the first that is less -/
section
variable {α : Type} (k : α → Int)
def atKy (l : List α) (x : α) : Nat := (l.takeWhile fun y => decide (k x ≤ k y)).length
def insKy (l : List α) (x : α) : List α := l.take (atKy k l x) ++ x :: l.drop (atKy k l x)
def sortKy (l : List α) : List α := l.foldl (insKy k) []
variable {k}
theorem sortKy_snoc (l : List α) (x : α) : sortKy k (l ++ [x]) = insKy k (sortKy k l) x := by unfold sortKy; rw [List.foldl_append]; rfl
theorem takeWhile_eq_take' (p : α → Bool) (l : List α) : l.take (l.takeWhile p).length = l.takeWhile p := by
 induction l with
 | nil => rfl
 | cons y t ih =>
  by_cases h : p y = true
  ·rw [List.takeWhile_cons_of_pos h, List.length_cons, List.take_succ_cons, ih]
  ·rw [List.takeWhile_cons_of_neg h]; rfl
theorem drop_eq_dropWhile' (p : α → Bool) (l : List α) : l.drop (l.takeWhile p).length = l.dropWhile p := by
 induction l with
 | nil => rfl
 | cons y t ih =>
  by_cases h : p y = true
  ·rw [List.takeWhile_cons_of_pos h, List.length_cons, List.drop_succ_cons, List.dropWhile_cons_of_pos h, ih]
  ·rw [List.takeWhile_cons_of_neg h, List.dropWhile_cons_of_neg h]; rfl
theorem insKy_law (l : List α) (x : α) (h : l.Pairwise fun x y => k y ≤ k x) : (insKy k l x).Pairwise (fun x y => k y ≤ k x) ∧ ∀ c, flF k c (insKy k l x) = flF k c (l ++ [x]) := by
 have hge : ∀ y ∈ l.takeWhile (fun y => decide (k x ≤ k y)), k x ≤ k y := fun y hy => by simpa using List.all_eq_true.1 (List.all_takeWhile (l := l) (p := fun y => decide (k x ≤ k y))) y hy
 have hlt : ∀ y ∈ l.dropWhile (fun y => decide (k x ≤ k y)), k y < k x := by
  intro y hy
  cases e : l.dropWhile (fun y => decide (k x ≤ k y)) with
  | nil => rw [e] at hy; cases hy
  | cons z t =>
   have hz : k z < k x := by
    have := List.head?_dropWhile_not (fun y => decide (k x ≤ k y)) l
    rw [e] at this
    simpa using this
   rw [e] at hy
   have hp : (z :: t).Pairwise fun x y => k y ≤ k x := by rw [← e]; exact h.sublist (List.dropWhile_sublist _)
   rcases List.mem_cons.1 hy with rfl | hy
   ·exact hz
   ·have := (List.pairwise_cons.1 hp).1 y hy; omega
 have hl := List.takeWhile_append_dropWhile (p := fun y => decide (k x ≤ k y)) (l := l)
 unfold insKy atKy
 rw [takeWhile_eq_take', drop_eq_dropWhile']
 constructor
 ·have hp := h
  rw [← hl, List.pairwise_append] at hp
  rw [List.pairwise_append]
  refine ⟨hp.1, List.pairwise_cons.2 ⟨fun y hy => Int.le_of_lt (hlt y hy), hp.2.1⟩, fun y hy z hz => ?_⟩
  rcases List.mem_cons.1 hz with rfl | hz
  ·exact hge y hy
  ·exact hp.2.2 y hy z hz
 ·intro c
  conv => rhs; rw [← hl]
  rw [flF_app, flF_app, flF_app, show x :: l.dropWhile (fun y => decide (k x ≤ k y)) = [x] ++ l.dropWhile (fun y => decide (k x ≤ k y)) from rfl, flF_app, List.append_assoc]
  congr 1
  by_cases hc : k x = c
  ·rw [flF_none (l := l.dropWhile fun y => decide (k x ≤ k y)) fun y hy => by have := hlt y hy; omega]
   simp
  ·rw [flF_none (l := [x]) fun y hy => by rw [List.mem_singleton] at hy; subst hy; exact hc]
   simp
theorem sortKy_law (l : List α) : (sortKy k l).Pairwise (fun x y => k y ≤ k x) ∧ ∀ c, flF k c (sortKy k l) = flF k c l := by
 suffices H : ∀ m : List α, (sortKy k m.reverse).Pairwise (fun x y => k y ≤ k x) ∧ ∀ c, flF k c (sortKy k m.reverse) = flF k c m.reverse by
  have := H l.reverse
  rwa [List.reverse_reverse] at this
 intro m
 induction m with
 | nil => exact ⟨List.Pairwise.nil, fun _ => rfl⟩
 | cons x t ih =>
  rw [List.reverse_cons, sortKy_snoc]
  have := insKy_law _ x ih.1
  exact ⟨this.1, fun c => by rw [this.2 c, flF_app, flF_app, ih.2 c]⟩
theorem sorted_sortKy {D D' : Nat → α} {n : Nat} (hf : FiF k D D' 0 n) (hs : SrF k D' 0 n) : sgF D' 0 n = sortKy k (sgF D 0 n) :=
 sorted_one _ _ hs.pair (sortKy_law _).1 fun c => (hf.fil c).trans ((sortKy_law _).2 c).symm
end
end Go.Proofs.YtihggkmjalofiaaGreatDoor

/- Stable sorting by merging in place: the plain law in the kit's words (rows as arrays). -/
namespace Go.Proofs.YtihggkmjalofiaaGreatDoor
open Go.Sort

section
variable {α : Type} [Inhabited α]
def atA (d : Array α) : Nat → α := fun i => d[i]!
theorem atA_swp (d : Array α) {i j : Nat} (hi : i < d.size) (hj : j < d.size) (x : Nat) : atA (swp d i j) x = if x = i then atA d j else if x = j then atA d i else atA d x := by
 unfold atA swp
 rw [getElem!_def, Array.getElem?_setIfInBounds, Array.getElem?_setIfInBounds, Array.size_setIfInBounds]
 by_cases h1 : x = i
 ·subst h1
  rw [if_pos rfl]
  by_cases h2 : j = x
  ·subst h2; rw [if_pos rfl, if_pos hj]; simp
  ·rw [if_neg h2, if_pos rfl, if_pos hi]
 ·rw [if_neg h1]
  by_cases h2 : x = j
  ·subst h2; rw [if_pos rfl, if_pos hj, if_pos rfl]
  ·rw [if_neg (Ne.symm h2), if_neg (Ne.symm h1), if_neg h2, ← getElem!_def]
theorem sgF_atA (d : Array α) : sgF (atA d) 0 d.size = d.toList := by
 unfold sgF atA
 apply List.ext_getElem?
 intro i
 rw [List.getElem?_map]
 by_cases hi : i < d.size
 ·rw [List.getElem?_range' (by omega)]
  simp [hi]
 ·rw [List.getElem?_eq_none (by rw [List.length_range']; omega), List.getElem?_eq_none (by rw [Array.length_toList]; omega)]
  rfl
/-- the ranges [a, a + n) and [b, b + n) change places -/
def swF (D : Nat → α) (a b n : Nat) : Nat → α := fun x => if a ≤ x ∧ x < a + n then D (x - a + b) else if b ≤ x ∧ x < b + n then D (x - b + a) else D x
omit [Inhabited α] in
theorem swF_none (D : Nat → α) (a b : Nat) : swF D a b 0 = D := by
 funext x
 unfold swF
 rw [if_neg (by omega), if_neg (by omega)]
theorem swF_step {d : Array α} {D : Nat → α} {a b n : Nat} (h : atA d = swF D a b n) (hab : a + n < b) (hb : b + n < d.size) : atA (swp d (a + n) (b + n)) = swF D a b (n + 1) := by
 funext x
 rw [atA_swp d (by omega) hb, h]
 unfold swF
 repeat' split
 all_goals first | omega | (congr 1 <;> omega)
omit [Inhabited α] in
theorem rot_big {D : Nat → α} {m i j : Nat} (hi : i ≤ m) (hj : j < i) : rotF (swF D (m - i) m j) (m - (i - j)) m (m + j) = rotF D (m - i) m (m + j) := by
 funext x
 unfold rotF swF
 repeat' split
 all_goals first | omega | (congr 1 <;> omega)
omit [Inhabited α] in
theorem rot_small {D : Nat → α} {m i j : Nat} (hi : i ≤ m) (hj : i < j) : rotF (swF D (m - i) (m + j - i) i) (m - i) m (m + (j - i)) = rotF D (m - i) m (m + j) := by
 funext x
 unfold rotF swF
 repeat' split
 all_goals first | omega | (congr 1 <;> omega)
omit [Inhabited α] in
theorem rot_same {D : Nat → α} {m i : Nat} (hi : i ≤ m) : swF D (m - i) m i = rotF D (m - i) m (m + i) := by
 funext x
 unfold rotF swF
 repeat' split
 all_goals first | omega | (congr 1 <;> omega)
/-- what stands at i has gone down to j -/
def downF (D : Nat → α) (j i : Nat) : Nat → α := fun x => if x = j then D i else if j < x ∧ x ≤ i then D (x - 1) else D x
omit [Inhabited α] in
theorem downF_none (D : Nat → α) (i : Nat) : downF D i i = D := by
 funext x
 unfold downF
 repeat' split
 all_goals first | omega | rfl | (congr 1 <;> omega)
theorem downF_step {d : Array α} {D : Nat → α} {j i : Nat} (h : atA d = downF D (j + 1) i) (hj : j + 1 ≤ i) (hi : i < d.size) : atA (swp d (j + 1) j) = downF D j i := by
 funext x
 rw [atA_swp d (by omega) (by omega), h]
 unfold downF
 repeat' split
 all_goals first | omega | (congr 1 <;> omega)
/-- what stands at a has gone up to k -/
def upF (D : Nat → α) (a k : Nat) : Nat → α := fun x => if a ≤ x ∧ x < k then D (x + 1) else if x = k then D a else D x
omit [Inhabited α] in
theorem upF_none (D : Nat → α) (a : Nat) : upF D a a = D := by
 funext x
 unfold upF
 repeat' split
 all_goals first | omega | rfl | (congr 1 <;> omega)
theorem upF_step {d : Array α} {D : Nat → α} {a k : Nat} (h : atA d = upF D a k) (hk : a ≤ k) (hi : k + 1 < d.size) : atA (swp d k (k + 1)) = upF D a (k + 1) := by
 funext x
 rw [atA_swp d (by omega) (by omega), h]
 unfold upF
 repeat' split
 all_goals first | omega | (congr 1 <;> omega)

/-! ## the kit's insertion sort is stable -/
variable {k : α → Int} {lt : α → α → Bool}
theorem insInner_down (hlt : ∀ x y, lt x y = decide (k y < k x)) {a i : Nat} (D : Nat → α) : ∀ (j : Nat) (d : Array α), atA d = downF D j i → a ≤ j → j ≤ i → i < d.size → (∀ x, j ≤ x → x < i → k (D x) < k (D i)) →
  ∃ j', a ≤ j' ∧ j' ≤ i ∧ (∀ x, j' ≤ x → x < i → k (D x) < k (D i)) ∧ (a < j' → k (D i) ≤ k (D (j' - 1))) ∧ (insInner lt a j d).size = d.size ∧ atA (insInner lt a j d) = downF D j' i
 | 0, d, h, ha, _, _, hm => ⟨0, ha, by omega, hm, fun h => by omega, by rw [insInner], by rw [insInner]; exact h⟩
 | j + 1, d, h, ha, hj, hi, hm => by
  have e1 : d[j + 1]! = D i := by
   have := congrFun h (j + 1)
   unfold downF at this
   rw [if_pos rfl] at this
   exact this
  have e0 : d[j]! = D j := by
   have := congrFun h j
   unfold downF at this
   rw [if_neg (by omega), if_neg (by omega)] at this
   exact this
  rw [insInner, e1, e0, hlt]
  by_cases hc : j + 1 > a ∧ k (D j) < k (D i)
  ·rw [if_pos (by simpa using hc)]
   have hc1 := hc.1
   obtain ⟨j', h1, h2, h3, h4, h5, h6⟩ := insInner_down hlt D j (swp d (j + 1) j) (downF_step h hj hi) (Nat.le_of_lt_succ hc1) (Nat.le_of_succ_le hj) (by rw [size_swp]; exact hi) (fun x hx hxi => by
    by_cases hxj : x = j
    ·subst hxj; exact hc.2
    ·exact hm x (by omega) hxi)
   exact ⟨j', h1, h2, h3, h4, h5.trans (size_swp ..), h6⟩
  ·rw [if_neg (by simpa using hc)]
   exact ⟨j + 1, ha, hj, hm, fun hx => Int.not_lt.1 fun e => hc ⟨hx, e⟩, rfl, h⟩
theorem insOuter_stable (hlt : ∀ x y, lt x y = decide (k y < k x)) {a b : Nat} (D : Nat → α) : ∀ (m i : Nat) (d : Array α), b - i = m → a < i → i ≤ b → b ≤ d.size → FiF k D (atA d) a b → SrF k (atA d) a i →
  (insOuter lt a b i d).size = d.size ∧ FiF k D (atA (insOuter lt a b i d)) a b ∧ SrF k (atA (insOuter lt a b i d)) a b
 | 0, i, d, hm, ha, hi, hb, f, s => by
  rw [insOuter, if_neg (by omega)]
  have : i = b := by omega
  subst this
  exact ⟨rfl, f, s⟩
 | m + 1, i, d, hm, ha, hi, hb, f, s => by
  rw [insOuter, if_pos (by omega)]
  obtain ⟨j', h1, h2, h3, h4, h5, h6⟩ := insInner_down (lt := lt) hlt (a := a) (i := i) (atA d) i d (downF_none _ _).symm (by omega) (Nat.le_refl _) (by omega) (fun x h1 h2 => by omega)
  have hh := ins_back (D := atA d) (D' := atA (insInner lt a i d)) s h1 h2 (fun x hx hxj => by
   have e := h4 (by omega)
   exact Int.le_trans e (s x (j' - 1) hx (by omega) (by omega))) h3 (fun x => congrFun h6 x)
  have := insOuter_stable hlt D m (i + 1) (insInner lt a i d) (by omega) (by omega) (by omega) (by omega) (f.trans (hh.1.widen (Nat.le_refl _) (by omega) (by omega))) hh.2
  exact ⟨this.1.trans h5, this.2⟩
theorem insertionSort_stable (hlt : ∀ x y, lt x y = decide (k y < k x)) {a b : Nat} (d : Array α) (ha : a ≤ b) (hb : b ≤ d.size) :
  (insertionSort lt d a b).size = d.size ∧ FiF k (atA d) (atA (insertionSort lt d a b)) a b ∧ SrF k (atA (insertionSort lt d a b)) a b := by
 unfold insertionSort
 by_cases h : a < b
 ·exact insOuter_stable hlt (atA d) _ (a + 1) d rfl (by omega) h hb FiF.refl SrF.one
 ·rw [insOuter, if_neg (by omega)]
  exact ⟨rfl, FiF.refl, SrF.none (by omega)⟩
end
end Go.Proofs.YtihggkmjalofiaaGreatDoor
