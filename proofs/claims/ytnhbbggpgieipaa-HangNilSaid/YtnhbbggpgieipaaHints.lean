/- Texts of general use, one behind another. -/
import Derived.Test.YtnhbbggpgieipaaGen
import Derived.Laws.BitsAllLaws
import Derived.IntWalk
import Derived.Test.YtnhbbggpgieipaaSets
import Derived.Test.YtnhbbggpgieipaaPidw
import Derived.Laws.Shifts
import Derived.Deep.DeepCutAuto

/- A number as its bits: plain laws. No program in sight. -/
namespace Go.Proofs.Ytnhbbggpgieipaa
open Go.RowKit

def numL : List Bool → Nat
  | [] => 0
  | b :: l => 2 * numL l + b.toNat
/-- 64 bits, by their places -/
def bl (f : Nat → Bool) : List Bool := (List.range 64).map f
def mixA (x : Nat) : Nat := x ^^^ (x * 8192 % 18446744073709551616)
def mixB (x : Nat) : Nat := x ^^^ (x / 128)
def mixC (x : Nat) : Nat := x ^^^ (x * 131072 % 18446744073709551616)
def mixN (x : Nat) : Nat := mixC (mixB (mixA x))
theorem mixA_lt {x : Nat} (h : x < 18446744073709551616) : mixA x < 18446744073709551616 := Nat.xor_lt_two_pow (n := 64) h (Nat.mod_lt _ (by omega))
theorem mixB_lt {x : Nat} (h : x < 18446744073709551616) : mixB x < 18446744073709551616 := Nat.xor_lt_two_pow (n := 64) h (Nat.lt_of_le_of_lt (Nat.div_le_self _ _) h)
theorem mixC_lt {x : Nat} (h : x < 18446744073709551616) : mixC x < 18446744073709551616 := Nat.xor_lt_two_pow (n := 64) h (Nat.mod_lt _ (by omega))
theorem bl_len (f : Nat → Bool) : (bl f).length = 64 := by simp [bl]
theorem bl_get (f : Nat → Bool) {i : Nat} (h : i < 64) : (bl f)[i]? = some (f i) := by simp [bl, h]
theorem bl_take (f : Nat → Bool) {k : Nat} (h : k < 64) : (bl f).take (k + 1) = (bl f).take k ++ [f k] := by
  rw [List.take_succ_eq_append_getElem (by rw [bl_len]; exact h)]
  simp [bl]
theorem bl_congr {f g : Nat → Bool} (h : ∀ i, i < 64 → f i = g i) : bl f = bl g := by
  unfold bl
  exact List.map_congr_left fun i hi => h i (List.mem_range.1 hi)
theorem numL_lt : ∀ l : List Bool, numL l < 2 ^ l.length
  | [] => by simp [numL]
  | b :: l => by
    have := numL_lt l
    rw [numL, List.length_cons, Nat.pow_succ]
    cases b <;> simp <;> omega
theorem numL_bit : ∀ (l : List Bool) (i : Nat), (numL l).testBit i = l.getD i false
  | [], i => by simp [numL]
  | b :: l, 0 => by
    rw [numL, Nat.testBit_zero]
    cases b <;> simp
  | b :: l, i + 1 => by
    rw [numL, Nat.testBit_succ]
    have : (2 * numL l + b.toNat) / 2 = numL l := by cases b <;> simp <;> omega
    rw [this, numL_bit l i]
    simp
theorem bl_bit (f : Nat → Bool) (i : Nat) : (numL (bl f)).testBit i = (decide (i < 64) && f i) := by
  rw [numL_bit, List.getD_eq_getElem?_getD]
  by_cases h : i < 64
  · rw [bl_get f h]; simp [h]
  · rw [List.getElem?_eq_none (by rw [bl_len]; omega)]; simp [h]
theorem num_bits {x : Nat} (h : x < 2 ^ 64) : numL (bl x.testBit) = x := by
  apply Nat.eq_of_testBit_eq
  intro i
  rw [bl_bit]
  by_cases hi : i < 64
  · simp [hi]
  · rw [Nat.testBit_lt_two_pow (Nat.lt_of_lt_of_le h (Nat.pow_le_pow_right (by omega) (by omega)))]; simp
theorem bl_lt (f : Nat → Bool) : numL (bl f) < 2 ^ 64 := by have := numL_lt (bl f); rwa [bl_len] at this
theorem shl_bit (x n i : Nat) : (x * 2 ^ n % 18446744073709551616).testBit i = (decide (i < 64) && (decide (n ≤ i) && x.testBit (i - n))) := by
  rw [show (18446744073709551616 : Nat) = 2 ^ 64 by rfl, Nat.testBit_mod_two_pow, ← Nat.shiftLeft_eq, Nat.testBit_shiftLeft]
theorem shr_bit (x n i : Nat) : (x / 2 ^ n).testBit i = x.testBit (n + i) := by
  rw [← Nat.shiftRight_eq_div_pow, Nat.testBit_shiftRight]
def movF (f : Nat → Bool) (n : Int) (i : Nat) : Bool := decide (0 ≤ (i : Int) - n) && (decide ((i : Int) - n < 64) && f ((i : Int) - n).toNat)
def xorF (f g : Nat → Bool) (i : Nat) : Bool := f i != g i
theorem mix_lt {x : Nat} (h : x < 18446744073709551616) : mixN x < 18446744073709551616 := by
  exact mixC_lt (mixB_lt (mixA_lt h))
theorem mix_bits {x : Nat} (h : x < 18446744073709551616) (f1 f2 f3 : Nat → Bool) (h1 : f1 = xorF x.testBit (movF x.testBit 13)) (h2 : f2 = xorF f1 (movF f1 (-7))) (h3 : f3 = xorF f2 (movF f2 17)) : numL (bl f3) = mixN x := by
  apply Nat.eq_of_testBit_eq
  intro i
  rw [bl_bit]
  have e1 : ∀ i, i < 64 → (mixA x).testBit i = f1 i := by
    intro i hi
    unfold mixA
    rw [Nat.testBit_xor, show (8192 : Nat) = 2 ^ 13 by rfl, shl_bit, h1]
    unfold xorF movF
    by_cases c : 13 ≤ i
    · have : ((i : Int) - 13).toNat = i - 13 := by omega
      rw [this, decide_eq_true hi, decide_eq_true c, decide_eq_true (by omega : (0 : Int) ≤ (i : Int) - 13), decide_eq_true (by omega : (i : Int) - 13 < 64)] <;> simp
    · rw [decide_eq_false c, decide_eq_false (by omega : ¬ (0 : Int) ≤ (i : Int) - 13)]; simp
  have l1 : mixA x < 2 ^ 64 := mixA_lt h
  have u1 : ∀ i, 64 ≤ i → (mixA x).testBit i = false := fun i hi => Nat.testBit_lt_two_pow (Nat.lt_of_lt_of_le l1 (Nat.pow_le_pow_right (by omega) hi))
  unfold mixN
  generalize mixA x = a at e1 l1 u1 ⊢
  have e2 : ∀ i, i < 64 → (mixB a).testBit i = f2 i := by
    intro i hi
    unfold mixB
    rw [Nat.testBit_xor, show (128 : Nat) = 2 ^ 7 by rfl, shr_bit, h2, e1 i hi]
    unfold xorF movF
    have : ((i : Int) - -7).toNat = 7 + i := by omega
    rw [this, decide_eq_true (by omega : (0 : Int) ≤ (i : Int) - -7)]
    by_cases c : 7 + i < 64
    · rw [decide_eq_true (by omega : (i : Int) - -7 < 64), e1 _ c]; simp
    · rw [decide_eq_false (by omega : ¬ (i : Int) - -7 < 64), u1 _ (by omega)]; simp
  have l2 : mixB a < 2 ^ 64 := mixB_lt l1
  generalize mixB a = b at e2 l2 ⊢
  unfold mixC
  by_cases hi : i < 64
  · rw [Nat.testBit_xor, show (131072 : Nat) = 2 ^ 17 by rfl, shl_bit, h3, e2 i hi]
    unfold xorF movF
    by_cases c : 17 ≤ i
    · have : ((i : Int) - 17).toNat = i - 17 := by omega
      rw [this, decide_eq_true hi, decide_eq_true c, decide_eq_true (by omega : (0 : Int) ≤ (i : Int) - 17), decide_eq_true (by omega : (i : Int) - 17 < 64), e2 _ (by omega)] <;> simp
    · rw [decide_eq_false c, decide_eq_false (by omega : ¬ (0 : Int) ≤ (i : Int) - 17)]; simp [hi]
  · have l3 : b ^^^ (b * 131072 % 18446744073709551616) < 2 ^ 64 := Nat.xor_lt_two_pow l2 (Nat.mod_lt _ (by omega))
    rw [Nat.testBit_lt_two_pow (Nat.lt_of_lt_of_le l3 (Nat.pow_le_pow_right (by omega) (by omega)))]; simp [hi]
end Go.Proofs.Ytnhbbggpgieipaa

/- A number as its bits, mixed: walked. -/
namespace Go.Proofs.Ytnhbbggpgieipaa
open Go.RowKit

theorem boolSl : SlT Try.prog 36 4 1 1 := slT_of (z := .bool false) Try.underlying36 (by kernel_rfl) rfl (by omega)
theorem own_drewN {w : World} {base : Nat} {e : TypeId} {size n : Nat} {v : Value} {xs : List Value} (h : w.ownsRow base e size v n xs) (u : Nat) : (w.drewN u).ownsRow base e size v n xs := h
def RetBits (w : World) (f : Nat → Bool) (e : Ending) (w' : World) : Prop := RetSl w 1 64 ((bl f).map Value.bool) e w'
theorem push_bits {f : Nat → Bool} {k : Nat} (h : k < 64) : ((bl f).take k).map Value.bool ++ [.bool (f k)] = ((bl f).take (k + 1)).map Value.bool := by
  rw [bl_take f h]; simp
theorem div_pow_succ (x k : Nat) : x / 2 ^ (k + 1) = x / 2 ^ k / 2 := by rw [Nat.pow_succ, Nat.div_div_eq_div_mul]
theorem num_step (f : Nat → Bool) {k : Nat} (h : k < 64) : numL ((bl f).drop k) = 2 * numL ((bl f).drop (k + 1)) + (f k).toNat := by
  rw [List.drop_eq_getElem_cons (by rw [bl_len]; exact h), numL]
  simp [bl]
theorem num_drop_lt (f : Nat → Bool) (k : Nat) (h : k < 64) : numL ((bl f).drop (k + 1)) < 9223372036854775808 := by
  have h1 := numL_lt ((bl f).drop (k + 1))
  have h2 : ((bl f).drop (k + 1)).length ≤ 63 := by rw [List.length_drop, bl_len]; omega
  exact Nat.lt_of_lt_of_le h1 (Nat.pow_le_pow_right (by omega) h2)
end Go.Proofs.Ytnhbbggpgieipaa

/- Numbers mixed: walked. -/
namespace Go.Proofs.Ytnhbbggpgieipaa
open Go.RowKit

theorem xorA {x : Nat} (h : x < 18446744073709551616) : bits .xor .u64 (x : Int) (IntKind.u64.wrap ((x : Int) * 8192)) = ((mixA x : Nat) : Int) := by
  rw [IntKind.wrap_u64]
  have e : ((x * 8192 % 18446744073709551616 : Nat) : Int) = (x : Int) * 8192 % 18446744073709551616 := by omega
  rw [← e]
  exact u64_xor_nat x _ h (Nat.mod_lt _ (by omega))
theorem xorB {x : Nat} (h : x < 18446744073709551616) : bits .xor .u64 (x : Int) ((x : Int) / 128) = ((mixB x : Nat) : Int) := by
  have e : ((x / 128 : Nat) : Int) = (x : Int) / 128 := by omega
  rw [← e]
  exact u64_xor_nat x _ h (Nat.lt_of_le_of_lt (Nat.div_le_self _ _) h)
theorem xorC {x : Nat} (h : x < 18446744073709551616) : bits .xor .u64 (x : Int) (IntKind.u64.wrap ((x : Int) * 131072)) = ((mixC x : Nat) : Int) := by
  rw [IntKind.wrap_u64]
  have e : ((x * 131072 % 18446744073709551616 : Nat) : Int) = (x : Int) * 131072 % 18446744073709551616 := by omega
  rw [← e]
  exact u64_xor_nat x _ h (Nat.mod_lt _ (by omega))
set_option maxRecDepth 100000 in
set_option maxHeartbeats 1000000 in
theorem mix_any (x : Nat) (hx : x < 18446744073709551616) (w : World) : Calls Try.prog 144 #[.int .u64 x] w (Ret w (.int .u64 ((mixN x : Nat) : Int))) := by
  have HA := Lib.hid (xorA hx)
  have HB := Lib.hid (xorB (mixA_lt hx))
  have HC := Lib.hid (xorC (mixB_lt (mixA_lt hx)))
  have y1 := mixA_lt hx
  have y2 := mixB_lt y1
  have F : Hid (mixC (mixB (mixA x)) = mixN x) := rfl
  generalize mixA x = a at *
  generalize mixB a = b at *
  generalize mixC b = c at *
  have x0 : (0 : Int) ≤ (x : Int) := by omega
  have x1 : (x : Int) < 18446744073709551616 := by omega
  have a0 : (0 : Int) ≤ (a : Int) := by omega
  have a1 : (a : Int) < 18446744073709551616 := by omega
  have b0 : (0 : Int) ≤ (b : Int) := by omega
  have b1 : (b : Int) < 18446744073709551616 := by omega
  go_enter Try.func144, Try.ntmps144
  go_wp2
  go_ret
  exact ⟨ret_int (by rw [HA.out, HB.out, HC.out, F.out]), rfl⟩
end Go.Proofs.Ytnhbbggpgieipaa

/- Hints of which patches there are: plain laws. -/
namespace Go.Proofs.Ytnhbbggpgieipaa
open Go.RowKit

/-- a patch's place in a hint -/
def placeN (p : PidV) (k : Nat) : Nat := mixN ((k + 1) * 4294967296 + (p.1.val * 65536 + p.2.val)) / 16777216 % 256
theorem placeN_lt (p : PidV) (k : Nat) : placeN p k < 256 := Nat.mod_lt _ (by omega)
theorem packN_lt (p : PidV) : p.1.val * 65536 + p.2.val < 16777216 := by have := p.1.isLt; have := p.2.isLt; omega
/-- a hint: four numbers -/
def BlOk (xs : List Nat) : Prop := xs.length = 4 ∧ ∀ x ∈ xs, x < 18446744073709551616
def putBit (xs : List Nat) (q : Nat) : List Nat := xs.set (q / 64) (xs.getD (q / 64) 0 ||| 2 ^ (q % 64))
theorem putBit_ok {xs : List Nat} (h : BlOk xs) (q : Nat) : BlOk (putBit xs q) := by
  refine ⟨by simp [putBit, h.1], fun x hx => ?_⟩
  rcases List.mem_or_eq_of_mem_set hx with hx | rfl
  · exact h.2 x hx
  · refine Nat.or_lt_two_pow (n := 64) ?_ (Nat.pow_lt_pow_right (by omega) (Nat.mod_lt _ (by omega)))
    rw [List.getD_eq_getElem?_getD]
    rcases Nat.lt_or_ge (q / 64) xs.length with h1 | h1
    · rw [List.getElem?_eq_getElem h1]; exact h.2 _ (List.getElem_mem h1)
    · rw [List.getElem?_eq_none h1]; decide
def putN (xs : List Nat) (p : PidV) : Nat → List Nat
  | 0 => xs
  | k + 1 => putBit (putN xs p k) (placeN p k)
theorem putN_ok {xs : List Nat} (h : BlOk xs) (p : PidV) : ∀ k, BlOk (putN xs p k)
  | 0 => h
  | k + 1 => putBit_ok (putN_ok h p k) _
def bitAt (xs : List Nat) (q : Nat) : Bool := (xs.getD (q / 64) 0).testBit (q % 64)
def hasN (xs : List Nat) (p : PidV) : Bool := bitAt xs (placeN p 0) && (bitAt xs (placeN p 1) && bitAt xs (placeN p 2))
theorem getD_set_ne' {xs : List Nat} {i j v : Nat} (h : i ≠ j) : (xs.set i v).getD j 0 = xs.getD j 0 := by
  rw [List.getD_eq_getElem?_getD, List.getD_eq_getElem?_getD, List.getElem?_set_ne h]
theorem getD_set_eq' {xs : List Nat} {i v : Nat} (h : i < xs.length) : (xs.set i v).getD i 0 = v := by
  rw [List.getD_eq_getElem?_getD, List.getElem?_set_self h]; rfl
theorem bit_put {xs : List Nat} (h : BlOk xs) {q : Nat} (hq : q < 256) (r : Nat) : bitAt (putBit xs q) r = (bitAt xs r || decide (q = r)) := by
  unfold bitAt putBit
  have hl : q / 64 < xs.length := by rw [h.1]; omega
  by_cases e : q / 64 = r / 64
  · rw [← e, getD_set_eq' hl, Nat.testBit_or, Nat.testBit_two_pow]
    congr 1
    rw [decide_eq_decide]
    omega
  · rw [getD_set_ne' e]
    have : q ≠ r := fun h => e (by rw [h])
    rw [decide_eq_false this]; simp
theorem put_same {xs : List Nat} (h : BlOk xs) {q : Nat} (hq : q < 256) : bitAt xs q = true → putBit xs q = xs := by
  intro hb
  unfold bitAt at hb
  unfold putBit
  have hl : q / 64 < xs.length := by rw [h.1]; omega
  have e : xs.getD (q / 64) 0 ||| 2 ^ (q % 64) = xs.getD (q / 64) 0 := by
    apply Nat.eq_of_testBit_eq
    intro i
    rw [Nat.testBit_or, Nat.testBit_two_pow]
    by_cases e : q % 64 = i
    · subst e; rw [hb]; rfl
    · rw [decide_eq_false e]; simp
  rw [e]
  apply List.ext_getElem?
  intro i
  by_cases hi : q / 64 = i
  · subst hi
    rw [List.getElem?_set_self hl, List.getD_eq_getElem?_getD, List.getElem?_eq_getElem hl]; rfl
  · rw [List.getElem?_set_ne hi]
theorem has_put {xs : List Nat} (h : BlOk xs) (p : PidV) : hasN xs p = decide (putN xs p 3 = xs) := by
  have q0 := placeN_lt p 0
  have q1 := placeN_lt p 1
  have q2 := placeN_lt p 2
  have o1 := putBit_ok h (placeN p 0)
  have o2 := putBit_ok o1 (placeN p 1)
  show hasN xs p = decide (putBit (putBit (putBit xs (placeN p 0)) (placeN p 1)) (placeN p 2) = xs)
  unfold hasN
  by_cases e : putBit (putBit (putBit xs (placeN p 0)) (placeN p 1)) (placeN p 2) = xs
  · rw [decide_eq_true e]
    have b : ∀ r, bitAt xs r = (((bitAt xs r || decide (placeN p 0 = r)) || decide (placeN p 1 = r)) || decide (placeN p 2 = r)) := by
      intro r
      rw [← bit_put h q0, ← bit_put o1 q1, ← bit_put o2 q2, e]
    have b0 := b (placeN p 0)
    have b1 := b (placeN p 1)
    have b2 := b (placeN p 2)
    simp only [decide_true, Bool.or_true, Bool.true_or] at b0 b1 b2
    rw [b0, b1, b2]; rfl
  · rw [decide_eq_false e]
    cases h0 : bitAt xs (placeN p 0)
    · rfl
    cases h1 : bitAt xs (placeN p 1)
    · rfl
    cases h2 : bitAt xs (placeN p 2)
    · rfl
    rw [put_same h q0 h0, put_same h q1 h1, put_same h q2 h2] at e
    exact absurd rfl e
/-- all bits of a hint -/
def allB (xs : List Nat) : List Bool := xs.flatMap fun x => bl x.testBit
theorem allB_get {xs : List Nat} (h : BlOk xs) {q : Nat} (hq : q < 256) : (allB xs)[q]? = some (bitAt xs q) := by
  obtain ⟨h1, h2⟩ := h
  match xs, h1 with
  | [a, b, c, d], _ =>
    have e : allB [a, b, c, d] = bl a.testBit ++ (bl b.testBit ++ (bl c.testBit ++ bl d.testBit)) := by simp [allB]
    rw [e]
    unfold bitAt
    by_cases c0 : q < 64
    · rw [List.getElem?_append_left (by rw [bl_len]; exact c0), bl_get _ c0, show q / 64 = 0 by omega, show q % 64 = q by omega]; rfl
    · rw [List.getElem?_append_right (by rw [bl_len]; omega), bl_len]
      by_cases c1 : q < 128
      · rw [List.getElem?_append_left (by rw [bl_len]; omega), bl_get _ (by omega), show q / 64 = 1 by omega, show q % 64 = q - 64 by omega]; rfl
      · rw [List.getElem?_append_right (by rw [bl_len]; omega), bl_len]
        by_cases c2 : q < 192
        · rw [List.getElem?_append_left (by rw [bl_len]; omega), bl_get _ (by omega), show q / 64 = 2 by omega, show q % 64 = q - 64 - 64 by omega]; rfl
        · rw [List.getElem?_append_right (by rw [bl_len]; omega), bl_len, bl_get _ (by omega), show q / 64 = 3 by omega, show q % 64 = q - 64 - 64 - 64 by omega]; rfl
def encBl (xs : List Nat) : List Value := xs.map fun (x : Nat) => Value.int .u64 (x : Int)
theorem encBl_len {xs : List Nat} (h : BlOk xs) : (encBl xs).length = 4 := by simp [encBl, h.1]
theorem encBl_get {xs : List Nat} (h : BlOk xs) {i : Nat} (hi : i < 4) : (encBl xs)[i]? = some (.int .u64 ((xs.getD i 0 : Nat) : Int)) := by
  have hl : i < xs.length := by rw [h.1]; exact hi
  unfold encBl
  rw [List.getElem?_map, List.getD_eq_getElem?_getD, List.getElem?_eq_getElem hl]; rfl
theorem encBl_set (xs : List Nat) (i v : Nat) : (encBl xs).set i (.int .u64 (v : Int)) = encBl (xs.set i v) := by
  unfold encBl; rw [List.map_set]
theorem getD_lt {xs : List Nat} (h : BlOk xs) (i : Nat) : xs.getD i 0 < 18446744073709551616 := by
  rw [List.getD_eq_getElem?_getD]
  rcases Nat.lt_or_ge i xs.length with h1 | h1
  · rw [List.getElem?_eq_getElem h1]; exact h.2 _ (List.getElem_mem h1)
  · rw [List.getElem?_eq_none h1]; decide
end Go.Proofs.Ytnhbbggpgieipaa

/- Hints of which patches there are: the program's, walked. -/
namespace Go.Proofs.Ytnhbbggpgieipaa
open Go.RowKit

theorem or_join {h l : Nat} (hh : h < 4294967296) (hl : l < 4294967296) : bits .or .u64 ((h : Int) * 4294967296) (l : Int) = ((h * 4294967296 + l : Nat) : Int) := by
  have e : ((h * 4294967296 : Nat) : Int) = (h : Int) * 4294967296 := by omega
  rw [← e, u64_or_nat _ _ (by omega) (by omega), show h * 4294967296 = h <<< 32 by rw [Nat.shiftLeft_eq], ← Nat.shiftLeft_add_eq_or_of_lt (by omega : l < 2 ^ 32)]
set_option maxRecDepth 100000 in
set_option maxHeartbeats 1000000 in
theorem join_any (h l : Nat) (hh : h < 4294967296) (hl : l < 4294967296) (w : World) : Calls Try.prog 145 #[.int .u32 h, .int .u32 l] w (Ret w (.int .u64 ((h * 4294967296 + l : Nat) : Int))) := by
  have E := Lib.hid (or_join hh hl)
  have h0 : (0 : Int) ≤ (h : Int) := by omega
  have h1 : (h : Int) < 4294967296 := by omega
  have l0 : (0 : Int) ≤ (l : Int) := by omega
  have l1 : (l : Int) < 4294967296 := by omega
  go_enter Try.func145, Try.ntmps145
  go_wp2
  go_ret
  exact ⟨ret_int (by rw [← E.out]), rfl⟩
set_option maxRecDepth 100000 in
set_option maxHeartbeats 1000000 in
theorem place_any (p : PidV) (k : Nat) (hk : k ≤ 10) (w : World) : Calls Try.prog 121 #[.agg (encP p).toArray, .int .i64 k] w (RetB w (.int .u8 ((placeN p k : Nat) : Int))) := by
  have K : Hid (Blk (w.alloc (.cells (encP p).toArray 41)) w.heap.size 41 (encP p).toArray) := Blk.new _ _ _
  have B0 : Hid (Below w.heap.size w (w.alloc (.cells (encP p).toArray 41))) := below_new _ _
  have HP : Hid (∀ u : World, Calls Try.prog 135 #[.agg (encP p).toArray] u (RetB u (.int .u32 ((p.1.val * 65536 + p.2.val : Nat) : Int)))) := fun u =>
    (pack_any ((p.1.val : Nat) : Int) ((p.2.val : Nat) : Int) ⟨by omega, by have := p.1.isLt; omega⟩ ⟨by omega, by have := p.2.isLt; omega⟩ u).mono fun _ _ h => by
      have : packV ((p.1.val : Nat) : Int) ((p.2.val : Nat) : Int) = ((p.1.val * 65536 + p.2.val : Nat) : Int) := by unfold packV; omega
      rw [this] at h; exact h
  have hp := packN_lt p
  have F : Hid (placeN p k = mixN ((k + 1) * 4294967296 + (p.1.val * 65536 + p.2.val)) / 16777216 % 256) := rfl
  obtain ⟨n, hn⟩ : ∃ n, n = p.1.val * 65536 + p.2.val := ⟨_, rfl⟩
  rw [← hn] at HP F hp
  clear hn
  have HJ := Lib.hid (fun u => join_any (k + 1) n (by omega) (by omega) u)
  have hx : (k + 1) * 4294967296 + n < 18446744073709551616 := by omega
  obtain ⟨x, hx'⟩ : ∃ x, x = (k + 1) * 4294967296 + n := ⟨_, rfl⟩
  rw [← hx'] at HJ F hx
  clear hx'
  have HM := Lib.hid (fun u => mix_any x hx u)
  have hm := mix_lt hx
  obtain ⟨m, hm'⟩ : ∃ m, m = mixN x := ⟨_, rfl⟩
  rw [← hm'] at HM F hm
  clear hm'
  have k0 : (0 : Int) ≤ (k : Int) := by omega
  have k1 : (k : Int) ≤ 10 := by omega
  have ek : ((k + 1 : Nat) : Int) = (k : Int) + 1 := by omega
  rw [ek] at HJ
  have m0 : (0 : Int) ≤ (m : Int) := by omega
  have m1 : (m : Int) < 18446744073709551616 := by omega
  clear ek hx hm hp
  go_enter Try.func121, Try.ntmps121
  go_wp2_with (refine wpList_load_row rfl 41 _ (by rfl) w.heap.size (by rfl) _ _ _ _ K.out underPid rfl infoPid ?_)
  refine (HP.out _).mono ?_
  rintro e w1 ⟨rfl, b1⟩
  have B1 := Lib.hid (B0.out.trans (b1.mono B0.out.size))
  clear b1
  go_wp2_with fail
  refine (HJ.out _).mono ?_
  rintro e w2 ⟨rfl, rfl⟩
  go_wp2_with fail
  refine (HM.out _).mono ?_
  rintro e w3 ⟨rfl, rfl⟩
  go_wp2
  go_ret
  exact ⟨ret_int (by rw [F.out]; go_num), B1.out⟩
end Go.Proofs.Ytnhbbggpgieipaa

/- Hints: a patch put, asked for; the program's, walked. -/
namespace Go.Proofs.Ytnhbbggpgieipaa
open Go.RowKit

theorem underBl : Try.prog.underlying 79 = some (.array 4 77) := by kernel_rfl
theorem infoBl : (Try.prog.info? 79).map (·.size) = some 4 := by kernel_rfl
def zeroBl : List Nat := [0, 0, 0, 0]
theorem zeroBl_ok : BlOk zeroBl := ⟨rfl, by decide⟩
theorem and63 {q : Nat} (h : q < 256) : bits .and .u8 (q : Int) 63 = ((q % 64 : Nat) : Int) := by
  have := u8_and_nat q 63 h (by omega)
  rw [show ((63 : Nat) : Int) = 63 from rfl] at this
  rw [this, show (63 : Nat) = 2 ^ 6 - 1 by rfl, Nat.and_two_pow_sub_one_eq_mod]
theorem or_bit {y c : Nat} (hy : y < 18446744073709551616) (hc : c < 64) : bits .or .u64 (y : Int) ((2 ^ c : Nat) : Int) = ((y ||| 2 ^ c : Nat) : Int) :=
  u64_or_nat y _ hy (show 2 ^ c < 2 ^ 64 from Nat.pow_lt_pow_right (by omega) hc)
theorem wrap_pow {c : Nat} (hc : c < 64) : IntKind.u64.wrap (2 ^ c) = ((2 ^ c : Nat) : Int) := by
  have h1 : 2 ^ c < 2 ^ 64 := Nat.pow_lt_pow_right (by omega) hc
  have e : (2 : Int) ^ c = ((2 ^ c : Nat) : Int) := by simp
  rw [e]
  generalize 2 ^ c = z at h1
  exact IntWalk.u64_in _ (by omega)
theorem shl_run {c : Nat} (hc : c < 64) (w : World) : (binOp .shl 77 (.int .u64 1) (.int .u8 (c : Int))).run Try.prog w = .ok (.int .u64 ((2 ^ c : Nat) : Int)) w := by
  rw [← wrap_pow hc]
  simp [go_sem]
theorem shr_run {q : Nat} (w : World) : (binOp .shr 5 (.int .u8 (q : Int)) (.int .u64 6)).run Try.prog w = .ok (.int .u8 ((q / 64 : Nat) : Int)) w := by
  have e : ((q / 64 : Nat) : Int) = (q : Int) / 64 := by omega
  rw [e]
  simp [go_sem]
theorem and_run {q : Nat} (h : q < 256) (w : World) : (binOp .and 5 (.int .u8 (q : Int)) (.int .u8 63)).run Try.prog w = .ok (.int .u8 ((q % 64 : Nat) : Int)) w := by
  rw [← and63 h]
  simp [go_sem]
theorem or_run {y c : Nat} (hy : y < 18446744073709551616) (hc : c < 64) (w : World) : (binOp .or 77 (.int .u64 (y : Int)) (.int .u64 ((2 ^ c : Nat) : Int))).run Try.prog w = .ok (.int .u64 ((y ||| 2 ^ c : Nat) : Int)) w := by
  rw [← or_bit hy hc]
  simp [go_sem]
theorem wpList_comp {P : Program} {ops : Array Oper} {rest : List Oper} {a : Act} {w : World} {Q : Exit → Act → World → Prop} {d : Option Tmp} {ty t rt : TypeId} {pos : String} {after : Array Edge} {op : BinOp} {x y : Operand} {xv yv v : Value} (hx : a.eval x = xv) (hy : a.eval y = yv) (hg : (eqGuard op t x y xv yv).run P w = .ok () w) (hr : (binOp op t xv yv).run P w = .ok v w)
    (h : wpList P ops Q rest (a.put d v) w) : wpList P ops Q (⟨d, .binOp op t x y rt, ty, pos, after, none⟩ :: rest) a w :=
  wpList_plain rfl fun _ hK => wp_computed hx hy hg hr (hK _ _ h)
theorem index_run (g : Nat) {i : Nat} (hi : i < 4) (w : World) : (Instr.indexAt 79 (.pointer (some ⟨g, 0, none⟩)) (.int .u8 ((i : Nat) : Int))).run Try.prog w = .ok (.pointer (some ⟨g, i, none⟩)) w := by
  match i, hi with
  | 0, _ => simp [go_sem]
  | 1, _ => simp [go_sem]
  | 2, _ => simp [go_sem]
  | 3, _ => simp [go_sem]
theorem load64_run (g i y : Nat) (w : World) (h : w.cell? ⟨g, i, none⟩ = some (.int .u64 (y : Int))) : (Instr.loadAt 77 (.pointer (some ⟨g, i, none⟩))).run Try.prog w = .ok (.int .u64 (y : Int)) w := by simp [go_sem, h]
theorem store64_run (g i y : Nat) (w : World) {u : Value} (h : w.cell? ⟨g, i, none⟩ = some u) (hf : w.frozen? ⟨g, i, none⟩ = false) : (Instr.storeAt 77 (.pointer (some ⟨g, i, none⟩)) (.int .u64 (y : Int))).run Try.prog w = .ok () (w.setCell ⟨g, i, none⟩ (.int .u64 (y : Int))) := by simp [go_sem, h, hf]
section
variable {P : Program} {ops : Array Oper} {rest : List Oper} {a : Act} {w w' : World} {Q : Exit → Act → World → Prop} {d : Option Tmp} {ty t s : TypeId} {pos : String} {after : Array Edge} {x y : Operand} {pv iv v : Value}
theorem wpList_idx (hx : a.eval x = pv) (hy : a.eval y = iv) (hr : (Instr.indexAt s pv iv).run P w = .ok v w) (h : wpList P ops Q rest (a.put d v) w) : wpList P ops Q (⟨d, .indexAddr s x y, ty, pos, after, none⟩ :: rest) a w :=
  wpList_plain rfl fun _ hK => by
    unfold Oper.wp execOp
    simp only [hx, hy, Sem.run_bind, hr, Result.andThen_ok, Sem.run_pure]
    exact hK _ _ h
theorem wpList_ld (hx : a.eval x = pv) (hr : (Instr.loadAt s pv).run P w = .ok v w) (h : wpList P ops Q rest (a.put d v) w) : wpList P ops Q (⟨d, .load s x, ty, pos, after, none⟩ :: rest) a w :=
  wpList_plain rfl fun _ hK => by
    unfold Oper.wp execOp
    simp only [hx, Sem.run_bind, hr, Result.andThen_ok, Sem.run_pure]
    exact hK _ _ h
theorem wpList_st (hx : a.eval x = pv) (hy : a.eval y = v) (hr : (Instr.storeAt s pv v).run P w = .ok () w') (h : wpList P ops Q rest a w') : wpList P ops Q (⟨none, .store s x y, ty, pos, after, none⟩ :: rest) a w :=
  wpList_plain rfl fun _ hK => by
    unfold Oper.wp execOp
    simp only [hx, hy, Sem.run_bind, hr, Result.andThen_ok, Sem.run_pure]
    exact hK _ _ h
end
theorem blOk_four {xs : List Nat} (h : BlOk xs) : ∃ a b c d, xs = [a, b, c, d] := by
  match xs, h.1 with
  | [a, b, c, d], _ => exact ⟨a, b, c, d, rfl⟩
set_option maxRecDepth 100000 in
set_option maxHeartbeats 1000000 in
theorem put13_any (xs : List Nat) (h : BlOk xs) (p : PidV) (w : World) : Calls Try.prog 84 #[.agg (encBl xs).toArray, .agg (encP p).toArray] w (RetB w (.agg (encBl (putN xs p 3)).toArray)) := by
  obtain ⟨xa, xb, xc, xd, rfl⟩ := blOk_four h
  have K1 : Hid (Blk (((w.alloc (.cells (encBl [xa, xb, xc, xd]).toArray 79)).alloc (.cells (encP p).toArray 41)).alloc (.cells #[.int .u64 0, .int .u64 0, .int .u64 0, .int .u64 0] 79)) w.heap.size 79 (encBl [xa, xb, xc, xd]).toArray) := ((Blk.new _ _ _).alloc _).alloc _
  have K2 : Hid (Blk (((w.alloc (.cells (encBl [xa, xb, xc, xd]).toArray 79)).alloc (.cells (encP p).toArray 41)).alloc (.cells #[.int .u64 0, .int .u64 0, .int .u64 0, .int .u64 0] 79)) (w.heap.size + 1) 41 (encP p).toArray) := (Blk.newAt (by simp) _ _).alloc _
  have K3 : Hid (Blk (((w.alloc (.cells (encBl [xa, xb, xc, xd]).toArray 79)).alloc (.cells (encP p).toArray 41)).alloc (.cells #[.int .u64 0, .int .u64 0, .int .u64 0, .int .u64 0] 79)) (w.heap.size + 2) 79 #[.int .u64 0, .int .u64 0, .int .u64 0, .int .u64 0]) := Blk.newAt (by simp) _ _
  have B0 : Hid (Below w.heap.size w (((w.alloc (.cells (encBl [xa, xb, xc, xd]).toArray 79)).alloc (.cells (encP p).toArray 41)).alloc (.cells #[.int .u64 0, .int .u64 0, .int .u64 0, .int .u64 0] 79))) := (((Below.refl _ _).alloc (Nat.le_refl _) _).alloc (by simp) _).alloc (by simp; omega) _
  go_enter Try.func84, Try.ntmps84
  go_upto_region 1 with fail
  generalize (((w.alloc (.cells (encBl [xa, xb, xc, xd]).toArray 79)).alloc (.cells (encP p).toArray 41)).alloc (.cells #[.int .u64 0, .int .u64 0, .int .u64 0, .int .u64 0] 79)) = w2 at *
  obtain ⟨gb, hgb⟩ : ∃ g, g = w.heap.size := ⟨_, rfl⟩
  obtain ⟨gp, hgp⟩ : ∃ g, g = w.heap.size + 1 := ⟨_, rfl⟩
  obtain ⟨gr, hgr⟩ : ∃ g, g = w.heap.size + 2 := ⟨_, rfl⟩
  have L1 : w.heap.size ≤ gb := by omega
  have L3 : w.heap.size ≤ gr := by omega
  have N1 : gp ≠ gb := by omega
  have N2 : gr ≠ gb := by omega
  have hgr' : w.heap.size + 1 + 1 = gr := by omega
  rw [hgr', ← hgp, ← hgb]
  rw [← hgb] at K1
  rw [← hgp] at K2
  rw [← hgr] at K3
  clear hgb hgp hgr hgr'
  generalize [xa, xb, xc, xd] = xs at *
  go_wp2_with fail
  go_loopw [7] (fun i wr => ∃ k : Nat, k ≤ 3 ∧ i = .int .i64 k ∧ Hid (Blk wr gb 79 (encBl (putN xs p k)).toArray) ∧ Hid (Blk wr gp 41 (encP p).toArray) ∧ Hid (Blk wr gr 79 #[.int .u64 0, .int .u64 0, .int .u64 0, .int .u64 0]) ∧ Hid (Below w.heap.size w wr)) (fun i _ => 3 - (intOf i).toNat)
  case atStart => exact ⟨0, by omega, rfl, K1.out, K2.out, K3.out, B0.out⟩
  case round =>
    clear K1 K2 K3 B0
    obtain ⟨k, hk, rfl, K1, K2, K3, B⟩ := hrel
    have ho := putN_ok h p k
    by_cases hlt : k < 3
    · have hlk : (k : Int) < 3 := by omega
      have HP := Lib.hid (fun u => place_any p k (by omega) u)
      have hq := placeN_lt p k
      have E : Hid (putN xs p (k + 1) = putBit (putN xs p k) (placeN p k)) := rfl
      generalize placeN p k = q at *
      generalize putN xs p k = ys at *
      go_wp2_with (refine wpList_load_row rfl 41 _ (by rfl) gp (by rfl) _ _ _ _ K2.out underPid rfl infoPid ?_)
      refine (HP.out _).mono ?_
      rintro e w3 ⟨rfl, b3⟩
      have K1 := Lib.hid (K1.out.ext b3)
      have K2 := Lib.hid (K2.out.ext b3)
      have K3 := Lib.hid (K3.out.ext b3)
      have B3 := Lib.hid (B.out.trans (b3.mono B.out.size))
      clear b3 HP B
      have q0 : (0 : Int) ≤ (q : Int) := by omega
      have q1 : (q : Int) < 256 := by omega
      have hhi : q / 64 < 4 := by omega
      have c1 : w3.cell? ⟨gb, q / 64, none⟩ = some (.int .u64 ((ys.getD (q / 64) 0 : Nat) : Int)) := by rw [K1.out.cell]; simpa using encBl_get ho hhi
      have f1 : w3.frozen? ⟨gb, q / 64, none⟩ = false := K1.out.fr _
      have S := Lib.hid (K1.out.set_ (q / 64) (.int .u64 ((ys.getD (q / 64) 0 ||| 2 ^ (q % 64) : Nat) : Int)))
      have R1 := fun u => shr_run (q := q) u
      have R2 := fun u => and_run hq u
      have R3 := fun u => shl_run (Nat.mod_lt q (show 0 < 64 by omega)) u
      have R4 := fun u => or_run (getD_lt ho (q / 64)) (Nat.mod_lt q (show 0 < 64 by omega)) u
      have hhi4 : ((q / 64 : Nat) : Int) < 4 := by omega
      have EB : Hid (putBit ys q = ys.set (q / 64) (ys.getD (q / 64) 0 ||| 2 ^ (q % 64))) := rfl
      rw [EB.out] at E
      clear EB
      have R5 := fun u => index_run gb hhi u
      have R6 := load64_run gb _ _ w3 c1
      have R7 := store64_run gb (q / 64) (ys.getD (q / 64) 0 ||| 2 ^ (q % 64)) w3 c1 f1
      clear c1 f1
      generalize ys.getD (q / 64) 0 = y at *
      generalize q / 64 = hi at *
      generalize q % 64 = c at *
      have BB : Hid (Below w.heap.size w (w3.setCell ⟨gb, hi, none⟩ (.int .u64 ((y ||| 2 ^ c : Nat) : Int)))) := below_setCell B3.out L1
      have K2 := Lib.hid (K2.out.far (p := ⟨gb, hi, none⟩) N1 (.int .u64 ((y ||| 2 ^ c : Nat) : Int)))
      have K3 := Lib.hid (K3.out.far (p := ⟨gb, hi, none⟩) N2 (.int .u64 ((y ||| 2 ^ c : Nat) : Int)))
      have S : Hid (Blk (w3.setCell ⟨gb, hi, none⟩ (.int .u64 ((y ||| 2 ^ c : Nat) : Int))) gb 79 (encBl (putN xs p (k + 1))).toArray) := by
        have e : (encBl ys).toArray.setIfInBounds hi (.int .u64 ((y ||| 2 ^ c : Nat) : Int)) = (encBl (putN xs p (k + 1))).toArray := by
          rw [E.out, List.setIfInBounds_toArray, encBl_set]
        rw [Hid, ← e]
        exact S.out
      generalize (y ||| 2 ^ c) = y' at *
      generalize 2 ^ c = p2 at *
      have R1 := Lib.hid R1
      have R2 := Lib.hid R2
      have R3 := Lib.hid R3
      have R4 := Lib.hid R4
      have R5 := Lib.hid R5
      have R6 := Lib.hid R6
      have R7 := Lib.hid R7
      clear K1 B3 E ho hq
      go_wp2_with (first
        | ((with_reducible refine wpList_idx ?_ ?_ (R5.out _) ?_); rfl; rfl)
        | ((with_reducible refine wpList_ld ?_ R6.out ?_); rfl)
        | ((with_reducible refine wpList_st ?_ ?_ R7.out ?_); rfl; rfl)
        | ((with_reducible refine wpList_comp (op := .shr) ?_ ?_ ?_ (R1.out _) ?_); rfl; rfl; simp [eqGuard])
        | ((with_reducible refine wpList_comp (op := .and) ?_ ?_ ?_ (R2.out _) ?_); rfl; rfl; simp [eqGuard])
        | ((with_reducible refine wpList_comp (op := .shl) ?_ ?_ ?_ (R3.out _) ?_); rfl; rfl; simp [eqGuard])
        | ((with_reducible refine wpList_comp (op := .or) ?_ ?_ ?_ (R4.out _) ?_); rfl; rfl; simp [eqGuard]))
      go_roundw
      case rel => exact ⟨k + 1, by omega, by go_num, S.out, K2.out, K3.out, BB.out⟩
      case measure => simp [intOf]; omega
    · have hk : k = 3 := by omega
      subst hk
      obtain ⟨ya, yb, yc, yd, hy⟩ := blOk_four ho
      rw [hy] at K1 ⊢
      have BB := Lib.hid (below_setRow B.out L3 (encBl [ya, yb, yc, yd]).toArray)
      have KR := Lib.hid (K3.out.row (encBl [ya, yb, yc, yd]).toArray)
      have HI : Hid ((Try.prog.info? 79).map (·.size) = some ((encBl [ya, yb, yc, yd]).toArray : Array Value).size) := infoBl
      have HO : Hid ((encBl [ya, yb, yc, yd]).toArray.all (·.oneCell') = true) := all_oneCell_toArray fun u hu => by
        simp only [encBl, List.map_cons, List.map_nil, List.mem_cons, List.not_mem_nil, or_false] at hu
        rcases hu with rfl | rfl | rfl | rfl <;> rfl
      have HY := Lib.hid hy
      clear hy ho h
      go_wp2_with (first
        | (refine wpList_load_row rfl 79 _ (by rfl) gb (by rfl) _ _ _ _ K1.out underBl rfl infoBl ?_)
        | (refine wpList_store_row rfl 79 _ _ (by rfl) gr (encBl [ya, yb, yc, yd]).toArray (by rfl) (by rfl) _ _ K3.out HI.out rfl HO.out ?_))
      generalize (wr.setRow gr (encBl [ya, yb, yc, yd]).toArray) = w5 at *
      have z0 := KR.out.cell 0
      have z1 := KR.out.cell 1
      have z2 := KR.out.cell 2
      have z3 := KR.out.cell 3
      simp [encBl] at z0 z1 z2 z3
      refine bodyPost_ret (v := .agg (encBl [ya, yb, yc, yd]).toArray) ?_ rfl ⟨by rw [HY.out], BB.out⟩
      simp [results, Try.results84, go_sem, z0, z1, z2, z3, encBl]
theorem bl_ints (xs : List Nat) : (encBl xs).toArray = ((xs.map fun (x : Nat) => (x : Int)).map (Value.int .u64)).toArray := by
  unfold encBl; rw [List.map_map]; rfl
theorem cast_inj (xs ys : List Nat) : decide ((xs.map fun (x : Nat) => (x : Int)) = ys.map fun (x : Nat) => (x : Int)) = decide (xs = ys) := by
  rw [decide_eq_decide]
  refine ⟨fun h => ?_, fun h => by rw [h]⟩
  exact (List.map_inj_right (f := fun (x : Nat) => (x : Int)) (fun a b (h : (a : Int) = (b : Int)) => by omega)).1 h
theorem bl_eq (xs ys : List Nat) (hx : BlOk xs) (hy : BlOk ys) (w : World) : (binOp .eql 79 (.agg (encBl xs).toArray) (.agg (encBl ys).toArray)).run Try.prog w = .ok (.bool (decide (xs = ys))) w := by
  rw [bl_ints, bl_ints, ← cast_inj]
  exact run_eql_ints underBl (by kernel_rfl) (fun u => by kernel_rfl) (fun u => by kernel_rfl) _ _ (by simp [hx.1]) (by simp [hy.1]) w
set_option maxRecDepth 100000 in
set_option maxHeartbeats 1000000 in
theorem has13_any (xs : List Nat) (h : BlOk xs) (p : PidV) (w : World) : Calls Try.prog 55 #[.agg (encBl xs).toArray, .agg (encP p).toArray] w (RetB w (.bool (hasN xs p))) := by
  have F := Lib.hid (has_put h p)
  have E := Lib.hid (fun u => bl_eq (putN xs p 3) xs (putN_ok h p 3) h u)
  have HP := Lib.hid (fun u => put13_any xs h p u)
  generalize putN xs p 3 = zs at *
  obtain ⟨xa, xb, xc, xd, rfl⟩ := blOk_four h
  have K1 : Hid (Blk ((w.alloc (.cells (encBl [xa, xb, xc, xd]).toArray 79)).alloc (.cells (encP p).toArray 41)) w.heap.size 79 (encBl [xa, xb, xc, xd]).toArray) := (Blk.new _ _ _).alloc _
  have K2 : Hid (Blk ((w.alloc (.cells (encBl [xa, xb, xc, xd]).toArray 79)).alloc (.cells (encP p).toArray 41)) (w.heap.size + 1) 41 (encP p).toArray) := Blk.newAt (by simp) _ _
  have B0 : Hid (Below w.heap.size w ((w.alloc (.cells (encBl [xa, xb, xc, xd]).toArray 79)).alloc (.cells (encP p).toArray 41))) := ((Below.refl _ _).alloc (Nat.le_refl _) _).alloc (by simp) _
  go_enter Try.func55, Try.ntmps55
  go_upto_region 1 with fail
  generalize ((w.alloc (.cells (encBl [xa, xb, xc, xd]).toArray 79)).alloc (.cells (encP p).toArray 41)) = w2 at *
  obtain ⟨gb, hgb⟩ : ∃ g, g = w.heap.size := ⟨_, rfl⟩
  obtain ⟨gp, hgp⟩ : ∃ g, g = w.heap.size + 1 := ⟨_, rfl⟩
  rw [← hgp, ← hgb]
  rw [← hgb] at K1
  rw [← hgp] at K2
  clear hgb hgp h
  have E := E.out
  refine wp_region_ext mixedS (by kernel_rfl) ?_
  repeat (first
    | (refine wpQuiet_load_row K1.out underBl rfl infoBl rfl rfl ?_; simp only [List.set_cons_succ, List.set_cons_zero])
    | (refine wpQuiet_load_row K2.out underPid rfl infoPid rfl rfl ?_; simp only [List.set_cons_succ, List.set_cons_zero])
    | go_big_quiet_step ((go_at_call 84; exact ext_call (HP.out _))))
  refine wpQuiet_nil ?_
  rintro _ ⟨z, rfl⟩
  have W := Lib.hid z.h
  generalize z.w = w3 at *
  clear E
  go_wp2
  go_ret
  exact ⟨ret_bool F.out.symm, B0.out.trans (W.out.mono B0.out.size)⟩
end Go.Proofs.Ytnhbbggpgieipaa

/- Hints: the document's, walked. -/
namespace Go.Proofs.Ytnhbbggpgieipaa
open Go.RowKit

theorem index_run64 (g : Nat) {i : Nat} (hi : i < 4) (w : World) : (Instr.indexAt 79 (.pointer (some ⟨g, 0, none⟩)) (.int .i64 ((i : Nat) : Int))).run Try.prog w = .ok (.pointer (some ⟨g, i, none⟩)) w := by
  match i, hi with
  | 0, _ => simp [go_sem]
  | 1, _ => simp [go_sem]
  | 2, _ => simp [go_sem]
  | 3, _ => simp [go_sem]
theorem u8_inB (v : Fin 256) : 0 ≤ ((v.val : Nat) : Int) ∧ ((v.val : Nat) : Int) < 256 := ⟨by omega, by have := v.isLt; omega⟩
theorem allB_snoc {xs : List Nat} {k : Nat} (hk : k < xs.length) : allB (xs.take (k + 1)) = allB (xs.take k) ++ bl (xs.getD k 0).testBit := by
  unfold allB
  rw [List.take_succ_eq_append_getElem hk, List.flatMap_append, List.getD_eq_getElem?_getD, List.getElem?_eq_getElem hk]
  simp
theorem bools_one (l : List Bool) : ∀ u ∈ l.map Value.bool, u.oneCell' = true := by
  intro u hu
  obtain ⟨b, _, rfl⟩ := List.mem_map.1 hu
  rfl
def placesN (p : PidV) : List Nat := [placeN p 0, placeN p 1, placeN p 2]
theorem intSlB : SlT Try.prog 113 3 1 8 := slT_of Try.underlying113 (z := .int .i64 0) (by kernel_rfl) rfl (by omega)
theorem places_snoc (p : PidV) {k : Nat} (h : k < 3) : (placesN p).take (k + 1) = (placesN p).take k ++ [placeN p k] := by
  match k, h with
  | 0, _ => rfl
  | 1, _ => rfl
  | 2, _ => rfl
end Go.Proofs.Ytnhbbggpgieipaa

/- Hints: the document's asking; a hint of patches: walked. -/
namespace Go.Proofs.Ytnhbbggpgieipaa
open Go.RowKit

/-- a hint of patches -/
def ofN (l : List PidV) : List Nat := l.foldl (fun xs p => putN xs p 3) zeroBl
theorem ofN_ok (l : List PidV) : BlOk (ofN l) := by
  unfold ofN
  suffices h : ∀ xs, BlOk xs → BlOk (l.foldl (fun xs p => putN xs p 3) xs) from h _ zeroBl_ok
  induction l with
  | nil => exact fun _ h => h
  | cons p l ih => exact fun xs h => ih _ (putN_ok h p 3)
end Go.Proofs.Ytnhbbggpgieipaa

/- Hints: the hint of patches, walked. -/
namespace Go.Proofs.Ytnhbbggpgieipaa
open Go.RowKit

theorem ofN_snoc {l : List PidV} {k : Nat} {x : PidV} (h : l[k]? = some x) : ofN (l.take (k + 1)) = putN (ofN (l.take k)) x 3 := by
  obtain ⟨hk, rfl⟩ := List.getElem?_eq_some_iff.1 h
  unfold ofN
  rw [List.take_succ_eq_append_getElem hk, List.foldl_append]; rfl
theorem ofN_zero (l : List PidV) : ofN (l.take 0) = zeroBl := by rw [List.take_zero]; rfl
theorem bl_one {xs : List Nat} : (encBl xs).toArray.all (·.oneCell') = true := all_oneCell_toArray fun u hu => by
  obtain ⟨x, _, rfl⟩ := List.mem_map.1 hu
  rfl
theorem bl_info {xs : List Nat} (h : BlOk xs) : (Try.prog.info? 79).map (·.size) = some ((encBl xs).toArray : Array Value).size := by
  obtain ⟨a, b, c, d, rfl⟩ := blOk_four h
  exact infoBl
set_option maxRecDepth 100000 in
set_option maxHeartbeats 1000000 in
theorem of13_any (l : List PidV) (w : World) (A : Option Addr) (n c : Nat) (h : PidsAt w A n l) (hm : n ≤ maxLen) :
    Calls Try.prog 83 #[.slice A n c] w (RetB w (.agg (encBl (ofN l)).toArray)) := by
  unfold maxLen at hm
  have H := Lib.hid h
  clear h
  have K0 : Hid (Blk ((w.alloc (.cells #[.int .u64 0, .int .u64 0, .int .u64 0, .int .u64 0] 79)).alloc (.cells #[.int .u64 0, .int .u64 0, .int .u64 0, .int .u64 0] 79)) w.heap.size 79 #[.int .u64 0, .int .u64 0, .int .u64 0, .int .u64 0]) := (Blk.new _ _ _).alloc _
  have K1 : Hid (Blk ((w.alloc (.cells #[.int .u64 0, .int .u64 0, .int .u64 0, .int .u64 0] 79)).alloc (.cells #[.int .u64 0, .int .u64 0, .int .u64 0, .int .u64 0] 79)) (w.heap.size + 1) 79 (encBl zeroBl).toArray) := Blk.newAt (by simp) _ _
  have B0 : Hid (Below w.heap.size w ((w.alloc (.cells #[.int .u64 0, .int .u64 0, .int .u64 0, .int .u64 0] 79)).alloc (.cells #[.int .u64 0, .int .u64 0, .int .u64 0, .int .u64 0] 79))) := ((Below.refl _ _).alloc (Nat.le_refl _) _).alloc (by simp) _
  have E0 := ofN_zero l
  go_enter Try.func83, Try.ntmps83
  go_upto_region 2 with fail
  generalize ((w.alloc (.cells #[.int .u64 0, .int .u64 0, .int .u64 0, .int .u64 0] 79)).alloc (.cells #[.int .u64 0, .int .u64 0, .int .u64 0, .int .u64 0] 79)) = w2 at *
  obtain ⟨gr, hgr⟩ : ∃ g, g = w.heap.size := ⟨_, rfl⟩
  obtain ⟨gb, hgb⟩ : ∃ g, g = w.heap.size + 1 := ⟨_, rfl⟩
  have L1 : w.heap.size ≤ gb := by omega
  have L2 : w.heap.size ≤ gr := by omega
  have N1 : gr ≠ gb := by omega
  rw [← hgb, ← hgr]
  rw [← hgb] at K1
  rw [← hgr] at K0
  clear hgb hgr
  go_wp2_with fail
  go_loopw [8] (fun i wr => ∃ k : Nat, k ≤ n ∧ i = .int .i64 k ∧ Hid (Blk wr gb 79 (encBl (ofN (l.take k))).toArray) ∧ Hid (Blk wr gr 79 #[.int .u64 0, .int .u64 0, .int .u64 0, .int .u64 0]) ∧ Hid (Below w.heap.size w wr)) (fun i _ => n - (intOf i).toNat)
  case atStart => exact ⟨0, by omega, rfl, by rw [E0]; exact K1.out, K0.out, B0.out⟩
  case round =>
    clear K1 K0 B0 E0
    obtain ⟨k, hk, rfl, K1, K0, B⟩ := hrel
    have ho := ofN_ok (l.take k)
    by_cases hlt : k < n
    · have hlk : (k : Int) < (n : Int) := by omega
      have hk0 : (0 : Int) ≤ (k : Int) := by omega
      obtain ⟨b, o, y, rfl, hb, hy, R2⟩ := H.out.at_ hlt
      have R2 := rangeAt_below R2 B.out hb
      have c0 : wr.cell? ⟨b, o + k * 2, none⟩ = some (.int .u8 ((y.1.val : Nat) : Int)) := R2 0 _ rfl
      have c1 : wr.cell? ⟨b, o + k * 2 + 1, none⟩ = some (.int .u16 ((y.2.val : Nat) : Int)) := R2 1 _ rfl
      have KY : Hid (Blk (wr.alloc (.cells #[.int .u8 ((y.1.val : Nat) : Int), .int .u16 ((y.2.val : Nat) : Int)] 41)) wr.heap.size 41 (encP y).toArray) := Blk.new _ _ _
      have K1 := Lib.hid (K1.out.alloc (.cells #[.int .u8 ((y.1.val : Nat) : Int), .int .u16 ((y.2.val : Nat) : Int)] 41))
      have K0 := Lib.hid (K0.out.alloc (.cells #[.int .u8 ((y.1.val : Nat) : Int), .int .u16 ((y.2.val : Nat) : Int)] 41))
      have B1 : Hid (Below w.heap.size w (wr.alloc (.cells #[.int .u8 ((y.1.val : Nat) : Int), .int .u16 ((y.2.val : Nat) : Int)] 41))) := B.out.trans ((below_new wr _).mono B.out.size)
      have E := Lib.hid (ofN_snoc hy)
      have HP := Lib.hid (fun u => put13_any (ofN (l.take k)) ho y u)
      have HO := ofN_ok (l.take (k + 1))
      rw [E.out] at HO
      have HI := Lib.hid (bl_info HO)
      have HS : Hid ((encBl (putN (ofN (l.take k)) y 3)).toArray.size = (encBl (ofN (l.take k))).toArray.size) := by
        show (encBl (putN (ofN (l.take k)) y 3)).length = (encBl (ofN (l.take k))).length
        rw [encBl_len HO, encBl_len ho]
      generalize putN (ofN (l.take k)) y 3 = zs at *
      have HI1 := Lib.hid (bl_info ho)
      generalize ofN (l.take k) = ys at *
      clear R2 hy ho HO B
      go_upto_region 5 with fail
      generalize (wr.alloc (.cells #[.int .u8 ((y.1.val : Nat) : Int), .int .u16 ((y.2.val : Nat) : Int)] 41)) = w3 at *
      generalize wr.heap.size = gy at *
      go_wp2_with (first
        | (refine wpList_load_row rfl 79 _ (by rfl) gb (by rfl) _ _ _ _ K1.out underBl rfl HI1.out ?_)
        | (refine wpList_load_row rfl 41 _ (by rfl) gy (by rfl) _ _ _ _ KY.out underPid rfl infoPid ?_))
      refine (HP.out _).mono ?_
      rintro e w4 ⟨rfl, b4⟩
      have K1 := Lib.hid (K1.out.ext b4)
      have K0 := Lib.hid (K0.out.ext b4)
      have B2 := Lib.hid (B1.out.trans (b4.mono B1.out.size))
      have BB := Lib.hid (below_setRow B2.out L1 (encBl zs).toArray)
      have KR := Lib.hid (K1.out.row (encBl zs).toArray)
      have KO := Lib.hid (K0.out.rowFar N1 (encBl zs).toArray)
      clear b4 HP KY B1
      go_wp2_with (refine wpList_store_row rfl 79 _ _ (by rfl) gb (encBl zs).toArray (by rfl) (by rfl) _ _ K1.out HI.out HS.out.symm bl_one ?_)
      go_roundw
      case rel => exact ⟨k + 1, by omega, by go_num, by rw [E.out]; exact KR.out, KO.out, BB.out⟩
      case measure => simp [intOf]; omega
    · have hk : k = n := by omega
      subst hk
      rw [List.take_of_length_le (by rw [H.out.len]; omega)] at K1 ho
      obtain ⟨ya, yb, yc, yd, hy⟩ := blOk_four ho
      rw [hy] at K1
      have BB := Lib.hid (below_setRow B.out L2 (encBl [ya, yb, yc, yd]).toArray)
      have KR := Lib.hid (K0.out.row (encBl [ya, yb, yc, yd]).toArray)
      have HI : Hid ((Try.prog.info? 79).map (·.size) = some ((encBl [ya, yb, yc, yd]).toArray : Array Value).size) := infoBl
      have HO : Hid ((encBl [ya, yb, yc, yd]).toArray.all (·.oneCell') = true) := bl_one
      have HY := Lib.hid hy
      clear hy ho
      go_wp2_with (first
        | (refine wpList_load_row rfl 79 _ (by rfl) gb (by rfl) _ _ _ _ K1.out underBl rfl infoBl ?_)
        | (refine wpList_store_row rfl 79 _ _ (by rfl) gr (encBl [ya, yb, yc, yd]).toArray (by rfl) (by rfl) _ _ K0.out HI.out rfl HO.out ?_))
      generalize (wr.setRow gr (encBl [ya, yb, yc, yd]).toArray) = w5 at *
      have z0 := KR.out.cell 0
      have z1 := KR.out.cell 1
      have z2 := KR.out.cell 2
      have z3 := KR.out.cell 3
      simp [encBl] at z0 z1 z2 z3
      refine bodyPost_ret (v := .agg (encBl [ya, yb, yc, yd]).toArray) ?_ rfl ⟨by rw [HY.out], BB.out⟩
      simp [results, Try.results83, go_sem, z0, z1, z2, z3, encBl]
end Go.Proofs.Ytnhbbggpgieipaa
