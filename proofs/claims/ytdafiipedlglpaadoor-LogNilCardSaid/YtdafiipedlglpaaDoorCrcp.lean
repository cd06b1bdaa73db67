/- The sum of bytes: plain laws: linear, one-to-one; no program in sight. -/
import Derived.Lib.Hide
namespace Go.Proofs.YtdafiipedlglpaaDoor

abbrev B32 := BitVec 32
abbrev B8 := BitVec 8
def polyC : B32 := 79764919#32
def crcT (r : B32) : B32 := (r <<< 1) ^^^ (if r.msb then polyC else 0#32)
theorem xor_swap32 (a b c : B32) : a ^^^ (b ^^^ c) = b ^^^ (a ^^^ c) := by rw [← BitVec.xor_assoc, BitVec.xor_comm a b, BitVec.xor_assoc]
theorem xor_four32 (a b c d : B32) : (a ^^^ b) ^^^ (c ^^^ d) = (a ^^^ c) ^^^ (b ^^^ d) := by rw [BitVec.xor_assoc, xor_swap32 b, ← BitVec.xor_assoc]
theorem crcT_xor (a b : B32) : crcT (a ^^^ b) = crcT a ^^^ crcT b := by
  unfold crcT
  have h1 : (a ^^^ b) <<< 1 = (a <<< 1) ^^^ (b <<< 1) := BitVec.shiftLeft_xor_distrib a b 1
  have h2 : (a ^^^ b).msb = Bool.xor a.msb b.msb := BitVec.msb_xor
  rw [h1, h2, xor_four32]
  congr 1
  cases a.msb <;> cases b.msb <;> simp
theorem crcT_zero : crcT 0#32 = 0#32 := by decide
theorem crcT_small {a : B32} (h : a.msb = false) : crcT a = a <<< 1 := by
  unfold crcT; rw [h]; simp
theorem crcT_inj0 {a : B32} (h : crcT a = 0#32) : a = 0#32 := by
  have h0 : (crcT a).getLsbD 0 = a.msb := by
    unfold crcT
    cases hm : a.msb <;> simp [polyC]
  have hm : a.msb = false := by rw [← h0, h]; rfl
  rw [crcT_small hm] at h
  apply BitVec.eq_of_getLsbD_eq
  intro i hi
  rw [BitVec.getLsbD_zero]
  by_cases e : i = 31
  · subst e
    rw [BitVec.msb_eq_getLsbD_last] at hm
    exact hm
  · have h1 : (a <<< 1).getLsbD (i + 1) = (0#32 : B32).getLsbD (i + 1) := by rw [h]
    rw [BitVec.getLsbD_shiftLeft, BitVec.getLsbD_zero, Nat.add_sub_cancel, decide_eq_true (by omega : i + 1 < 32), decide_eq_false (by omega : ¬ i + 1 < 1)] at h1
    exact h1
/-- n steps -/
def crcN : Nat → B32 → B32
  | 0, r => r
  | n + 1, r => crcN n (crcT r)
theorem crcN_xor (n : Nat) : ∀ a b : B32, crcN n (a ^^^ b) = crcN n a ^^^ crcN n b := by
  induction n with
  | zero => intro a b; rfl
  | succ n ih => intro a b; show crcN n (crcT (a ^^^ b)) = _; rw [crcT_xor, ih]; rfl
theorem crcN_zero (n : Nat) : crcN n 0#32 = 0#32 := by
  induction n with
  | zero => rfl
  | succ n ih => show crcN n (crcT 0#32) = _; rw [crcT_zero, ih]
theorem crcN_inj0 {n : Nat} : ∀ {a : B32}, crcN n a = 0#32 → a = 0#32 := by
  induction n with
  | zero => intro a h; exact h
  | succ n ih => intro a h; exact crcT_inj0 (ih h)
theorem crcN_add (m n : Nat) : ∀ a, crcN (m + n) a = crcN n (crcN m a) := by
  induction m with
  | zero => intro a; rw [Nat.zero_add]; rfl
  | succ m ih => intro a; rw [Nat.succ_add]; exact ih _
/-- whose highest bits are none is only moved -/
theorem crcN_shift (n : Nat) : ∀ a : B32, (∀ i, i < 32 → 32 ≤ i + n → a.getLsbD i = false) → crcN n a = a <<< n := by
  induction n with
  | zero => intro a _; simp [crcN]
  | succ n ih =>
    intro a h
    have hm : a.msb = false := by rw [BitVec.msb_eq_getLsbD_last]; exact h 31 (by omega) (by omega)
    show crcN n (crcT a) = _
    rw [crcT_small hm, ih, BitVec.shiftLeft_add, ]
    · rw [← BitVec.shiftLeft_add, ← BitVec.shiftLeft_add, Nat.add_comm]
    · intro i hi h2
      rw [BitVec.getLsbD_shiftLeft]
      by_cases e : i < 1
      · simp [e]
      · rw [h (i - 1) (by omega) (by omega)]; simp
/-- a bit at the top -/
def topB (b : Bool) : B32 := if b then 2147483648#32 else 0#32
def crcBits (r : B32) (l : List Bool) : B32 := l.foldl (fun r b => crcT (r ^^^ topB b)) r
def topL : List Bool → B32
  | [] => 0#32
  | b :: l => topB b ^^^ (topL l >>> 1)
theorem topL_low : ∀ (l : List Bool) (i : Nat), i + l.length < 32 → (topL l).getLsbD i = false := by
  intro l
  induction l with
  | nil => intro i _; simp [topL]
  | cons b l ih =>
    intro i h
    rw [List.length_cons] at h
    have h1 : (topB b).getLsbD i = false := by
      unfold topB
      cases b
      · simp
      · have e : (2147483648#32 : B32) = 1#32 <<< 31 := by decide
        rw [if_pos rfl, e, BitVec.getLsbD_shiftLeft]
        simp; omega
    show ((topB b) ^^^ (topL l >>> 1)).getLsbD i = false
    rw [BitVec.getLsbD_xor, h1, BitVec.getLsbD_ushiftRight, ih (1 + i) (by omega)]
    rfl
theorem topL_back {l : List Bool} (h : l.length < 32) : crcT (topL l >>> 1) = topL l := by
  have hm : (topL l >>> 1).msb = false := by rw [BitVec.msb_eq_getLsbD_last, BitVec.getLsbD_ushiftRight]; simp
  rw [crcT_small hm]
  apply BitVec.eq_of_getLsbD_eq
  intro i hi
  rw [BitVec.getLsbD_shiftLeft]
  by_cases e : i < 1
  · have : i = 0 := by omega
    subst this
    rw [topL_low l 0 (by omega)]; simp
  · rw [BitVec.getLsbD_ushiftRight]
    have : 1 + (i - 1) = i := by omega
    rw [this]; simp [e, hi]
theorem crcBits_top : ∀ (l : List Bool) (r : B32), l.length ≤ 32 → crcBits r l = crcN l.length (r ^^^ topL l) := by
  intro l
  induction l with
  | nil => intro r _; simp [crcBits, crcN, topL]
  | cons b l ih =>
    intro r h
    rw [List.length_cons] at h
    show crcBits (crcT (r ^^^ topB b)) l = crcN l.length (crcT (r ^^^ (topB b ^^^ (topL l >>> 1))))
    rw [ih _ (by omega), ← BitVec.xor_assoc, crcT_xor (r ^^^ topB b), topL_back (by omega)]
theorem topL_zero : ∀ (l : List Bool), l.length ≤ 32 → topL l = 0#32 → ∀ b ∈ l, b = false := by
  intro l
  induction l with
  | nil => intro _ _ b hb; cases hb
  | cons b l ih =>
    intro h h0 x hx
    rw [List.length_cons] at h
    have hb : b = false := by
      have := congrArg (fun x : B32 => x.msb) h0
      simp only [topL, BitVec.msb_xor] at this
      have hm : (topL l >>> 1).msb = false := by rw [BitVec.msb_eq_getLsbD_last, BitVec.getLsbD_ushiftRight]; simp
      rw [hm] at this
      cases b
      · rfl
      · simp [topB] at this
        exact absurd this (by decide)
    subst hb
    have h1 : topL l >>> 1 = 0#32 := by simpa [topL, topB] using h0
    have h2 : topL l = 0#32 := by rw [← topL_back (l := l) (by omega), h1]; exact crcT_zero
    rcases List.mem_cons.1 hx with rfl | hx
    · rfl
    · exact ih (by omega) h2 x hx
theorem crcBits_append (r : B32) (l m : List Bool) : crcBits r (l ++ m) = crcBits (crcBits r l) m := by unfold crcBits; rw [List.foldl_append]
theorem crcBits_none : ∀ (l : List Bool) (r : B32), (∀ b ∈ l, b = false) → crcBits r l = crcN l.length r := by
  intro l
  induction l with
  | nil => intro r _; rfl
  | cons b l ih =>
    intro r h
    have hb : b = false := h b (List.mem_cons_self ..)
    subst hb
    show crcBits (crcT (r ^^^ topB false)) l = crcN l.length (crcT r)
    rw [ih _ fun x hx => h x (List.mem_cons_of_mem _ hx)]
    simp [topB]
/-- a burst of at most 32 bits is seen -/
theorem burst_seen {l : List Bool} {s : Nat} (h : ∀ p, l[p]? = some true → s ≤ p ∧ p < s + 32) (h0 : crcBits 0#32 l = 0#32) : ∀ b ∈ l, b = false := by
  have e : l = l.take s ++ ((l.drop s).take 32 ++ (l.drop s).drop 32) := by rw [List.take_append_drop, List.take_append_drop]
  have f1 : ∀ b ∈ l.take s, b = false := by
    intro b hb
    obtain ⟨i, hi, rfl⟩ := List.getElem_of_mem hb
    rw [List.length_take] at hi
    rw [List.getElem_take]
    cases hc : l[i] with
    | false => rfl
    | true =>
      have := h i (by rw [List.getElem?_eq_getElem (by omega), hc])
      omega
  have f3 : ∀ b ∈ (l.drop s).drop 32, b = false := by
    intro b hb
    obtain ⟨i, hi, rfl⟩ := List.getElem_of_mem hb
    rw [List.length_drop, List.length_drop] at hi
    rw [List.getElem_drop, List.getElem_drop]
    cases hc : l[s + (32 + i)] with
    | false => rfl
    | true =>
      have := h (s + (32 + i)) (by rw [List.getElem?_eq_getElem (by omega), hc])
      omega
  have hl : ((l.drop s).take 32).length ≤ 32 := by rw [List.length_take]; omega
  rw [e, crcBits_append, crcBits_append, crcBits_none _ _ f1, crcN_zero, crcBits_none _ _ f3] at h0
  have h1 := crcN_inj0 h0
  rw [crcBits_top _ _ hl, BitVec.zero_xor] at h1
  have f2 := topL_zero _ hl (crcN_inj0 h1)
  intro b hb
  rw [e] at hb
  rcases List.mem_append.1 hb with hb | hb
  · exact f1 b hb
  · rcases List.mem_append.1 hb with hb | hb
    · exact f2 b hb
    · exact f3 b hb
/-- bytes -/
def upB (x : B8) : B32 := x.setWidth 32 <<< 24
def crcB (r : B32) (x : B8) : B32 := crcN 8 (r ^^^ upB x)
def crcL (r : B32) (l : List B8) : B32 := l.foldl crcB r
def bitsB (x : B8) : List Bool := [x.getLsbD 7, x.getLsbD 6, x.getLsbD 5, x.getLsbD 4, x.getLsbD 3, x.getLsbD 2, x.getLsbD 1, x.getLsbD 0]
theorem topB_get (b : Bool) (i : Nat) (hi : i < 32) : (topB b).getLsbD i = (b && decide (i = 31)) := by
  unfold topB
  cases b
  · simp
  · have e : (2147483648#32 : B32) = 1#32 <<< 31 := by decide
    rw [if_pos rfl, e, BitVec.getLsbD_shiftLeft]
    simp
    by_cases h : i = 31
    · subst h; decide
    · simp [h]; omega
theorem topB_xor (a b : Bool) : topB (Bool.xor a b) = topB a ^^^ topB b := by cases a <;> cases b <;> decide
theorem crcBits_xor : ∀ (l m : List Bool) (a b : B32), l.length = m.length → crcBits (a ^^^ b) (List.zipWith Bool.xor l m) = crcBits a l ^^^ crcBits b m := by
  intro l
  induction l with
  | nil =>
    intro m a b h
    cases m with
    | nil => rfl
    | cons _ _ => cases h
  | cons x l ih =>
    intro m a b h
    cases m with
    | nil => cases h
    | cons y m =>
      show crcBits (crcT ((a ^^^ b) ^^^ topB (Bool.xor x y))) (List.zipWith Bool.xor l m) = _
      rw [topB_xor, xor_four32, crcT_xor, ih m _ _ (Nat.succ.inj h)]
      rfl
/-- whose sums are the same, and who differ in 32 bits in a row at most, are the same -/
theorem bits_same {l m : List Bool} (hlen : l.length = m.length) {s : Nat} {r : B32} (h : ∀ p, l[p]? ≠ m[p]? → s ≤ p ∧ p < s + 32) (hv : crcBits r l = crcBits r m) : l = m := by
  have h0 : crcBits 0#32 (List.zipWith Bool.xor l m) = 0#32 := by
    have := crcBits_xor l m r r hlen
    rw [BitVec.xor_self, hv, BitVec.xor_self] at this
    exact this
  have h1 := burst_seen (l := List.zipWith Bool.xor l m) (s := s) (fun p hp => by
    apply h
    rw [List.getElem?_zipWith] at hp
    intro e
    rw [e] at hp
    cases hc : m[p]? with
    | none => rw [hc] at hp; cases hp
    | some x => rw [hc] at hp; simp at hp) h0
  apply List.ext_getElem hlen
  intro i hi hj
  have hz : i < (List.zipWith Bool.xor l m).length := by rw [List.length_zipWith]; omega
  have := h1 _ (List.getElem_mem hz)
  rw [List.getElem_zipWith] at this
  revert this
  cases l[i] <;> cases m[i] <;> simp
theorem bitsB_len (l : List B8) : (l.flatMap bitsB).length = 8 * l.length := by
  induction l with
  | nil => rfl
  | cons x l ih => rw [List.flatMap_cons, List.length_append, ih, List.length_cons]; show 8 + _ = _; omega
theorem bitsB_inj {x y : B8} (h : bitsB x = bitsB y) : x = y := by
  apply BitVec.eq_of_getLsbD_eq
  intro i hi
  unfold bitsB at h
  simp only [List.cons.injEq, and_true] at h
  obtain ⟨a, b, c, d, e, f, g, k⟩ := h
  have : i = 0 ∨ i = 1 ∨ i = 2 ∨ i = 3 ∨ i = 4 ∨ i = 5 ∨ i = 6 ∨ i = 7 := by omega
  rcases this with rfl | rfl | rfl | rfl | rfl | rfl | rfl | rfl <;> assumption
theorem bitsL_inj : ∀ {l m : List B8}, l.flatMap bitsB = m.flatMap bitsB → l = m := by
  intro l
  induction l with
  | nil =>
    intro m h
    cases m with
    | nil => rfl
    | cons y m => simp [bitsB] at h
  | cons x l ih =>
    intro m h
    cases m with
    | nil => simp [bitsB] at h
    | cons y m =>
      rw [List.flatMap_cons, List.flatMap_cons] at h
      have h1 := List.append_inj h rfl
      rw [bitsB_inj h1.1, ih h1.2]
/-- four bytes of a number -/
def fourB (s : B32) : List B8 := [(s >>> 24).setWidth 8, (s >>> 16).setWidth 8, (s >>> 8).setWidth 8, s.setWidth 8]
theorem fourB_bits (s : B32) : topL ((fourB s).flatMap bitsB) = s := by
  apply BitVec.eq_of_getLsbD_eq
  intro i hi
  have g : ∀ (b : Bool) (k : Nat), (topB b).getLsbD k = (b && decide (k = 31)) := by
    intro b k
    by_cases hk : k < 32
    · exact topB_get b k hk
    · rw [BitVec.getLsbD_of_ge _ _ (by omega), decide_eq_false (by omega), Bool.and_false]
  have key : ∀ (l : List Bool) (k : Nat), (topL l).getLsbD k = if h : 31 - k < l.length ∧ k ≤ 31 then l[31 - k]'h.1 else false := by
    intro l
    induction l with
    | nil => intro k; simp [topL]
    | cons b l ih =>
      intro k
      show (topB b ^^^ (topL l >>> 1)).getLsbD k = _
      rw [BitVec.getLsbD_xor, BitVec.getLsbD_ushiftRight, g, ih]
      by_cases c : k = 31
      · subst c
        rw [dif_neg (by omega), dif_pos (by simp)]
        simp
      · rw [decide_eq_false c, Bool.and_false, Bool.false_xor]
        by_cases c2 : 31 - k < (b :: l).length ∧ k ≤ 31
        · rw [dif_pos c2]
          have c3 : 31 - (1 + k) < l.length ∧ 1 + k ≤ 31 := by have := c2.1; rw [List.length_cons] at this; omega
          rw [dif_pos c3]
          have e : 31 - k = (31 - (1 + k)) + 1 := by omega
          simp only [e, List.getElem_cons_succ]
        · rw [dif_neg c2, dif_neg]
          intro c3
          exact c2 (by rw [List.length_cons]; omega)
  rw [key]
  have hl : ((fourB s).flatMap bitsB).length = 32 := by rw [bitsB_len]; rfl
  rw [dif_pos (by rw [hl]; omega)]
  have all : ∀ j, j < 32 → ((fourB s).flatMap bitsB)[31 - j]? = some (s.getLsbD j) := by
    intro j hj
    have : j = 0 ∨ j = 1 ∨ j = 2 ∨ j = 3 ∨ j = 4 ∨ j = 5 ∨ j = 6 ∨ j = 7 ∨ j = 8 ∨ j = 9 ∨ j = 10 ∨ j = 11 ∨ j = 12 ∨ j = 13 ∨ j = 14 ∨ j = 15 ∨ j = 16 ∨ j = 17 ∨ j = 18 ∨ j = 19 ∨ j = 20 ∨ j = 21 ∨ j = 22 ∨ j = 23 ∨ j = 24 ∨ j = 25 ∨ j = 26 ∨ j = 27 ∨ j = 28 ∨ j = 29 ∨ j = 30 ∨ j = 31 := by omega
    rcases this with rfl | rfl | rfl | rfl | rfl | rfl | rfl | rfl | rfl | rfl | rfl | rfl | rfl | rfl | rfl | rfl | rfl | rfl | rfl | rfl | rfl | rfl | rfl | rfl | rfl | rfl | rfl | rfl | rfl | rfl | rfl | rfl <;> simp [fourB, bitsB]
  have := all i hi
  rw [List.getElem?_eq_getElem (by rw [hl]; omega)] at this
  exact Option.some.inj this
theorem crcL_append (r : B32) (l m : List B8) : crcL r (l ++ m) = crcL (crcL r l) m := by unfold crcL; rw [List.foldl_append]
/-- a sum that goes on -/
def moreC (s : B32) (l : List B8) : B32 := ~~~ (crcL (~~~ s) l)
def sumC (l : List B8) : B32 := moreC 0#32 l
theorem fourB_word {t : List B8} (h : t.length = 4) : ∃ s, t = fourB s := by
  refine ⟨topL (t.flatMap bitsB), ?_⟩
  have hl : (t.flatMap bitsB).length = 32 := by rw [bitsB_len, h]
  apply bitsL_inj
  have inj : ∀ {l m : List Bool}, l.length = 32 → m.length = 32 → topL l = topL m → l = m := by
    intro l m h1 h2 e
    refine bits_same (r := 0#32) (s := 0) (by omega) (fun p hp => ?_) ?_
    · refine ⟨Nat.zero_le _, ?_⟩
      rcases Nat.lt_or_ge p 32 with c | c
      · omega
      · rw [List.getElem?_eq_none (by omega), List.getElem?_eq_none (by omega)] at hp
        exact absurd rfl hp
    · rw [crcBits_top _ _ (by omega), crcBits_top _ _ (by omega), h1, h2, e]
  exact inj hl (by rw [bitsB_len]; rfl) (fourB_bits _).symm
/-- the program's table -/
def tabC : List B32 := [0x00000000#32, 0x04c11db7#32, 0x09823b6e#32, 0x0d4326d9#32, 0x130476dc#32, 0x17c56b6b#32, 0x1a864db2#32, 0x1e475005#32, 0x2608edb8#32, 0x22c9f00f#32, 0x2f8ad6d6#32, 0x2b4bcb61#32, 0x350c9b64#32, 0x31cd86d3#32, 0x3c8ea00a#32, 0x384fbdbd#32]
theorem tab_four : ∀ h : BitVec 4, crcN 4 (h.setWidth 32 <<< 28) = tabC.getD h.toNat 0#32 := by decide
theorem crc_four (r : B32) : crcN 4 r = (r <<< 4) ^^^ tabC.getD (r >>> 28).toNat 0#32 := by
  have g : ∀ i, (((r >>> 28).setWidth 4).setWidth 32 <<< 28 : B32).getLsbD i = (decide (i < 32) && (decide (28 ≤ i) && r.getLsbD i)) := by
    intro i
    rw [BitVec.getLsbD_shiftLeft, BitVec.getLsbD_setWidth, BitVec.getLsbD_setWidth, BitVec.getLsbD_ushiftRight]
    by_cases c : i < 32
    · by_cases c2 : 28 ≤ i
      · rw [decide_eq_true c, decide_eq_true c2, decide_eq_false (by omega : ¬ i < 28), decide_eq_true (by omega : i - 28 < 32), decide_eq_true (by omega : i - 28 < 4), show 28 + (i - 28) = i by omega]
        simp
      · rw [decide_eq_false c2, decide_eq_true (by omega : i < 28)]; simp
    · rw [decide_eq_false c]; simp
  have e : r = (r ^^^ (((r >>> 28).setWidth 4).setWidth 32 <<< 28)) ^^^ (((r >>> 28).setWidth 4).setWidth 32 <<< 28) := by
    rw [BitVec.xor_assoc, BitVec.xor_self, BitVec.xor_zero]
  have hs : crcN 4 (r ^^^ (((r >>> 28).setWidth 4).setWidth 32 <<< 28)) = r <<< 4 := by
    rw [crcN_shift]
    · apply BitVec.eq_of_getLsbD_eq
      intro i hi
      rw [BitVec.getLsbD_shiftLeft, BitVec.getLsbD_shiftLeft, BitVec.getLsbD_xor, g]
      by_cases c : i < 4
      · rw [decide_eq_true c]; simp
      · rw [decide_eq_false (by omega : ¬ 28 ≤ i - 4)]; simp
    · intro i hi h2
      rw [BitVec.getLsbD_xor, g, decide_eq_true hi, decide_eq_true (by omega : 28 ≤ i)]
      simp
  have hn : ((r >>> 28).setWidth 4).toNat = (r >>> 28).toNat := by
    rw [BitVec.toNat_setWidth, BitVec.toNat_ushiftRight, Nat.shiftRight_eq_div_pow]
    have := r.isLt
    omega
  rw [show crcN 4 r = crcN 4 ((r ^^^ (((r >>> 28).setWidth 4).setWidth 32 <<< 28)) ^^^ (((r >>> 28).setWidth 4).setWidth 32 <<< 28)) from congrArg (crcN 4) e, crcN_xor, hs, tab_four, hn]
theorem crcB_tab (r : B32) (x : B8) : crcB r x = (let a := r ^^^ upB x; let b := (a <<< 4) ^^^ tabC.getD (a >>> 28).toNat 0#32; (b <<< 4) ^^^ tabC.getD (b >>> 28).toNat 0#32) := by
  show crcN (4 + 4) (r ^^^ upB x) = _
  rw [crcN_add, crc_four, crc_four]
end Go.Proofs.YtdafiipedlglpaaDoor
