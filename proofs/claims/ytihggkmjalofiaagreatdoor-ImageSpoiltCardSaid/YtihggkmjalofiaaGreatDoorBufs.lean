/- Texts of general use, one behind another. -/
import Derived.Test.YtihggkmjalofiaaGreatDoorGen
import Derived.Laws.BitsAllLaws
import Derived.Laws.Shifts
import Derived.IntWalk
import Derived.Test.YtihggkmjalofiaaGreatDoorIdxw
import Derived.Lib.AppendStr
import Derived.Test.YtihggkmjalofiaaGreatDoorSets
import Derived.Laws.BytesArg

/- Numbers as bytes: plain law; no program in sight. -/
namespace Go.Proofs.YtihggkmjalofiaaGreatDoor

/-- a number's bytes -/
def vbytes (n : Nat) : List UInt8 := if n < 128 then [UInt8.ofNat n] else UInt8.ofNat (n % 128 + 128) :: vbytes (n / 128)
termination_by n
decreasing_by omega
theorem vbytes_low {n : Nat} (h : n < 128) : vbytes n = [UInt8.ofNat n] := by rw [vbytes, if_pos h]
theorem vbytes_high {n : Nat} (h : ¬ n < 128) : vbytes n = UInt8.ofNat (n % 128 + 128) :: vbytes (n / 128) := by rw [vbytes, if_neg h]
/-- reading goes on: so many bytes were read, so much was told -/
def vgo (i acc : Nat) : List UInt8 → Nat × Nat × Nat
  | [] => if 10 ≤ i then (0, 0, 4) else (0, 0, 2)
  | x :: l =>
    if 10 ≤ i then (0, 0, 4)
    else if 128 ≤ x.toNat then vgo (i + 1) (acc + x.toNat % 128 * 128 ^ i) l
    else if (x.toNat = 0 ∧ 0 < i) ∨ (i = 9 ∧ 1 < x.toNat) then (0, 0, 4)
    else (acc + x.toNat * 128 ^ i, i + 1, 0)
/-- the number with which bytes begin, how many they are, and what was wrong -/
def vread (l : List UInt8) : Nat × Nat × Nat := vgo 0 0 l
theorem vgo_end (i acc : Nat) (l : List UInt8) (h : 10 ≤ i) : vgo i acc l = (0, 0, 4) := by
  cases l <;> simp [vgo, h]
theorem vgo_nil {i acc : Nat} (h : i < 10) : vgo i acc [] = (0, 0, 2) := by
  rw [vgo, if_neg (by omega)]
theorem vgo_more {i acc : Nat} {x : UInt8} {l : List UInt8} (h : i < 10) (hx : 128 ≤ x.toNat) : vgo i acc (x :: l) = vgo (i + 1) (acc + x.toNat % 128 * 128 ^ i) l := by
  rw [vgo, if_neg (by omega), if_pos hx]
theorem vgo_bad {i acc : Nat} {x : UInt8} {l : List UInt8} (h : i < 10) (hx : ¬ 128 ≤ x.toNat) (hb : (x.toNat = 0 ∧ 0 < i) ∨ (i = 9 ∧ 1 < x.toNat)) : vgo i acc (x :: l) = (0, 0, 4) := by
  rw [vgo, if_neg (by omega), if_neg hx, if_pos hb]
theorem vgo_last {i acc : Nat} {x : UInt8} {l : List UInt8} (h : i < 10) (hx : ¬ 128 ≤ x.toNat) (hb : ¬ ((x.toNat = 0 ∧ 0 < i) ∨ (i = 9 ∧ 1 < x.toNat))) : vgo i acc (x :: l) = (acc + x.toNat * 128 ^ i, i + 1, 0) := by
  rw [vgo, if_neg (by omega), if_neg hx, if_neg hb]
theorem ofNat_toNat {n : Nat} (h : n < 256) : (UInt8.ofNat n).toNat = n := by
  rw [UInt8.toNat_ofNat']; omega
theorem pow7 (i : Nat) : 128 ^ i = 2 ^ (7 * i) := by rw [Nat.pow_mul]
/-- what may still come behind so many bytes -/
def roomV (i : Nat) : Nat := 2 ^ (64 - 7 * i)
theorem roomV_next {i n : Nat} (hi : i ≤ 9) (hn : n < roomV i) (h : ¬ n < 128) : i < 9 ∧ n / 128 < roomV (i + 1) ∧ 0 < n / 128 := by
  have h9 : i < 9 := by
    rcases Nat.lt_or_ge i 9 with c | c
    · exact c
    · have : i = 9 := by omega
      subst this
      unfold roomV at hn
      omega
  refine ⟨h9, ?_, by omega⟩
  unfold roomV at hn ⊢
  have e : 2 ^ (64 - 7 * i) = 128 * 2 ^ (64 - 7 * (i + 1)) := by
    rw [show 64 - 7 * i = 7 + (64 - 7 * (i + 1)) by omega, Nat.pow_add]
  rw [e] at hn
  exact Nat.div_lt_of_lt_mul hn
theorem vgo_bytes : ∀ (n i acc : Nat) (rest : List UInt8), i ≤ 9 → n < roomV i → (0 < i → 0 < n) → vgo i acc (vbytes n ++ rest) = (acc + n * 128 ^ i, i + (vbytes n).length, 0) := by
  intro n
  induction n using Nat.strongRecOn with
  | ind n ih =>
    intro i acc rest hi hn h0
    by_cases h : n < 128
    · rw [vbytes_low h]
      have hx := ofNat_toNat (n := n) (by omega)
      rw [List.singleton_append, vgo_last (by omega) (by rw [hx]; omega) (by
        rw [hx]
        rintro (⟨a, b⟩ | ⟨a, b⟩)
        · have := h0 b; omega
        · subst a; unfold roomV at hn; omega), hx]
      rfl
    · obtain ⟨h9, h1, h2⟩ := roomV_next hi hn h
      have hx := ofNat_toNat (n := n % 128 + 128) (by omega)
      rw [vbytes_high h, List.cons_append, vgo_more (by omega) (by rw [hx]; omega), hx, ih (n / 128) (by omega) (i + 1) _ rest (by omega) h1 (fun _ => h2)]
      have e : (n % 128 + 128) % 128 = n % 128 := by omega
      rw [e, Nat.pow_succ]
      have e2 : acc + n % 128 * 128 ^ i + n / 128 * (128 ^ i * 128) = acc + n * 128 ^ i := by
        have : n * 128 ^ i = (n % 128 + 128 * (n / 128)) * 128 ^ i := by rw [Nat.mod_add_div]
        rw [this, Nat.add_mul]
        have : n / 128 * (128 ^ i * 128) = 128 * (n / 128) * 128 ^ i := by
          rw [Nat.mul_comm (128 ^ i) 128, ← Nat.mul_assoc, Nat.mul_comm (n / 128) 128]
        omega
      rw [e2, List.length_cons]
      refine Prod.ext rfl (Prod.ext ?_ rfl)
      show i + 1 + (vbytes (n / 128)).length = i + ((vbytes (n / 128)).length + 1)
      omega
theorem vread_bytes {n : Nat} (h : n < 2 ^ 64) (rest : List UInt8) : vread (vbytes n ++ rest) = (n, (vbytes n).length, 0) := by
  unfold vread
  rw [vgo_bytes n 0 0 rest (by omega) (by unfold roomV; exact h) (by omega)]
  simp
/-- what was read is a number's bytes -/
theorem vgo_told : ∀ (l : List UInt8) (i acc r j : Nat), vgo i acc l = (r, j, 0) → ∃ n rest, r = acc + n * 128 ^ i ∧ l = vbytes n ++ rest ∧ j = i + (vbytes n).length ∧ n < roomV i ∧ (0 < i → 0 < n) ∧ i ≤ 9
  | [], i, acc, r, j, h => by
    unfold vgo at h
    split at h <;> simp at h
  | x :: l, i, acc, r, j, h => by
    by_cases h10 : i < 10
    · by_cases hx : 128 ≤ x.toNat
      · rw [vgo_more h10 hx] at h
        obtain ⟨n, rest, h1, h2, h3, h4, h5, h6⟩ := vgo_told l (i + 1) _ r j h
        have hn := h5 (by omega)
        have hxl := x.toNat_lt
        refine ⟨x.toNat % 128 + 128 * n, rest, ?_, ?_, ?_, ?_, by omega, by omega⟩
        · rw [h1, Nat.pow_succ, Nat.add_mul]
          have : n * (128 ^ i * 128) = 128 * n * 128 ^ i := by
            rw [Nat.mul_comm (128 ^ i) 128, ← Nat.mul_assoc, Nat.mul_comm n 128]
          omega
        · rw [vbytes_high (by omega), h2]
          have e1 : (x.toNat % 128 + 128 * n) / 128 = n := by omega
          have e2 : (x.toNat % 128 + 128 * n) % 128 + 128 = x.toNat := by omega
          rw [e1, e2, List.cons_append]
          congr 1
          exact (UInt8.ofNat_toNat).symm
        · rw [h3, vbytes_high (n := x.toNat % 128 + 128 * n) (by omega)]
          have e1 : (x.toNat % 128 + 128 * n) / 128 = n := by omega
          rw [e1, List.length_cons]; omega
        · unfold roomV at h4 ⊢
          have e : 2 ^ (64 - 7 * i) = 128 * 2 ^ (64 - 7 * (i + 1)) := by
            rw [show 64 - 7 * i = 7 + (64 - 7 * (i + 1)) by omega, Nat.pow_add]
          rw [e]
          generalize 2 ^ (64 - 7 * (i + 1)) = K at h4 ⊢
          omega
      · by_cases hb : (x.toNat = 0 ∧ 0 < i) ∨ (i = 9 ∧ 1 < x.toNat)
        · rw [vgo_bad h10 hx hb] at h; simp at h
        · rw [vgo_last h10 hx hb] at h
          injection h with h1 h2
          injection h2 with h2 _
          refine ⟨x.toNat, l, h1.symm, ?_, ?_, ?_, by omega, by omega⟩
          · rw [vbytes_low (by omega), UInt8.ofNat_toNat]; rfl
          · rw [vbytes_low (by omega)]; exact h2.symm
          · unfold roomV
            rcases Nat.lt_or_ge i 9 with c | c
            · refine Nat.lt_of_lt_of_le (show x.toNat < 2 ^ 7 by omega) (Nat.pow_le_pow_right (by omega) (by omega))
            · have : i = 9 := by omega
              subst this
              show x.toNat < 2 ^ 1
              omega
    · rw [vgo_end _ _ _ (by omega)] at h; simp at h
theorem vread_told {l : List UInt8} {n k : Nat} (h : vread l = (n, k, 0)) : n < 2 ^ 64 ∧ k = (vbytes n).length ∧ l = vbytes n ++ l.drop k := by
  unfold vread at h
  obtain ⟨m, rest, h1, h2, h3, h4, _, _⟩ := vgo_told l 0 0 n k h
  have e : n = m := by rw [h1]; simp
  subst e
  refine ⟨h4, by omega, ?_⟩
  have : k = (vbytes n).length := by omega
  rw [this]
  conv => rhs; rw [h2, List.drop_left]
  exact h2
theorem vbytes_pos (n : Nat) : 0 < (vbytes n).length := by
  unfold vbytes
  split <;> simp
/-- cut off, it is too short -/
theorem vgo_cut : ∀ (n i acc m : Nat), i ≤ 9 → n < roomV i → m < (vbytes n).length → vgo i acc ((vbytes n).take m) = (0, 0, 2) := by
  intro n
  induction n using Nat.strongRecOn with
  | ind n ih =>
    intro i acc m hi hn hm
    match m with
    | 0 => rw [List.take_zero]; exact vgo_nil (by omega)
    | m + 1 =>
      by_cases h : n < 128
      · rw [vbytes_low h] at hm; simp at hm
      · obtain ⟨h9, h1, h2⟩ := roomV_next hi hn h
        have hx := ofNat_toNat (n := n % 128 + 128) (by omega)
        rw [vbytes_high h] at hm ⊢
        rw [List.take_succ_cons, vgo_more (by omega) (by rw [hx]; omega)]
        exact ih (n / 128) (by omega) (i + 1) _ m (by omega) h1 (by simpa using hm)
theorem vread_cut {n m : Nat} (h : n < 2 ^ 64) (hm : m < (vbytes n).length) : vread ((vbytes n).take m) = (0, 0, 2) := vgo_cut n 0 0 m (by omega) h hm
theorem vbytes_len : ∀ (k n : Nat), n < 128 ^ (k + 1) → (vbytes n).length ≤ k + 1
  | 0, n, h => by rw [vbytes_low (by simpa using h)]; simp
  | k + 1, n, h => by
    by_cases hl : n < 128
    · rw [vbytes_low hl]; simp
    · rw [vbytes_high hl, List.length_cons]
      have := vbytes_len k (n / 128) (Nat.div_lt_of_lt_mul (by rw [Nat.pow_succ] at h; omega))
      omega
theorem vread_len {l : List UInt8} {n k : Nat} (h : vread l = (n, k, 0)) : k ≤ l.length := by
  obtain ⟨_, h2, h3⟩ := vread_told h
  have := congrArg List.length h3
  rw [List.length_append, ← h2] at this
  omega
/-- what is told of an error -/
theorem vread_err (l : List UInt8) : (vread l).2.2 = 0 ∨ vread l = (0, 0, 4) ∨ vread l = (0, 0, 2) := by
  unfold vread
  suffices h : ∀ (l : List UInt8) (i acc : Nat), (vgo i acc l).2.2 = 0 ∨ vgo i acc l = (0, 0, 4) ∨ vgo i acc l = (0, 0, 2) from h l 0 0
  intro l
  induction l with
  | nil => intro i acc; unfold vgo; split <;> simp
  | cons x l ih =>
    intro i acc
    unfold vgo
    split
    · simp
    · split
      · exact ih _ _
      · split <;> simp
end Go.Proofs.YtihggkmjalofiaaGreatDoor

/- A number's bytes: the program's, walked. -/
namespace Go.Proofs.YtihggkmjalofiaaGreatDoor
open Go.RowKit

/-- bytes as they lie in memory -/
def enc1 (b : UInt8) : List Value := [.int .u8 ((b.toNat : Nat) : Int)]
def encB (l : List UInt8) : List Value := l.flatMap enc1
theorem enc1_len (b : UInt8) : (enc1 b).length = 1 := rfl
theorem encB_len (l : List UInt8) : (encB l).length = l.length := by
  unfold encB
  induction l with
  | nil => rfl
  | cons x l ih => rw [List.flatMap_cons, List.length_append, ih, enc1_len, List.length_cons]; omega
theorem encB_append (l m : List UInt8) : encB (l ++ m) = encB l ++ encB m := List.flatMap_append
theorem encB_one (l : List UInt8) : ∀ u ∈ encB l, u.oneCell' = true := fun u hu => by
  obtain ⟨b, _, h⟩ := List.mem_flatMap.1 hu
  rw [List.mem_singleton.1 h]; rfl
theorem encB_at (l : List UInt8) (k : Nat) : (encB l)[k]? = l[k]?.map fun b => Value.int .u8 ((b.toNat : Nat) : Int) := by
  unfold encB
  induction l generalizing k with
  | nil => simp
  | cons x l ih =>
    rw [List.flatMap_cons]
    cases k with
    | zero => rfl
    | succ k => exact ih k
theorem byteSl : SlT Tryz.prog 46 5 1 1 := slT_of Tryz.underlying46 (z := .int .u8 0) (by kernel_rfl) rfl (by omega)
theorem wpList_binB {P : Program} {ops : Array Oper} {rest : List Oper} {a : Act} {w : World} {Q : Exit → Act → World → Prop} {d : Option Tmp} {ty t rt : TypeId} {pos : String} {after : Array Edge} {op : BinOp} {x y : Operand} {xv yv v : Value} (hx : a.eval x = xv) (hy : a.eval y = yv) (hg : (eqGuard op t x y xv yv).run P w = .ok () w) (hr : (binOp op t xv yv).run P w = .ok v w)
    (h : wpList P ops Q rest (a.put d v) w) : wpList P ops Q (⟨d, .binOp op t x y rt, ty, pos, after, none⟩ :: rest) a w :=
  wpList_plain rfl fun _ hK => wp_computed hx hy hg hr (hK _ _ h)
set_option maxRecDepth 10000 in
theorem or128_fin : ∀ a : Fin 256, (a.val ||| 128) = a.val % 128 + 128 := by decide
theorem or128 {q : Nat} (h : q < 256) : bits .or .u8 (q : Int) 128 = ((q % 128 + 128 : Nat) : Int) := by
  have e := u8_or_nat q 128 h (by omega)
  rw [or128_fin ⟨q, h⟩] at e
  exact e
theorem or128_run {q : Nat} (h : q < 256) (w : World) : (binOp .or 5 (.int .u8 (q : Int)) (.int .u8 128)).run Tryz.prog w = .ok (.int .u8 ((q % 128 + 128 : Nat) : Int)) w := by
  rw [← or128 h]
  simp [go_sem]
theorem low8_run (m : Nat) (w : World) : (convert 76 5 (.int .u64 (m : Int))).run Tryz.prog w = .ok (.int .u8 ((m % 256 : Nat) : Int)) w := by
  have e : ((m % 256 : Nat) : Int) = (m : Int) % 256 := by omega
  rw [e]
  simp [go_sem, IntKind.wrap_u8']
theorem shr7_run (m : Nat) (w : World) : (binOp .shr 76 (.int .u64 (m : Int)) (.int .u64 7)).run Tryz.prog w = .ok (.int .u64 ((m / 128 : Nat) : Int)) w := by
  have e : ((m / 128 : Nat) : Int) = (m : Int) / 128 := by omega
  rw [e]
  simp [go_sem]
theorem mk10_run (w : World) : (Instr.makeSlice 46 (.int .i64 0) (.int .i64 10)).run Tryz.prog w = .ok (.slice (some ⟨w.heap.size, 0, none⟩) 0 10) (w.alloc (.cells (Array.replicate 10 (.int .u8 0)) 5)) := by kernel_rfl
theorem enc1_nat {n : Nat} (h : n < 256) : enc1 (UInt8.ofNat n) = [.int .u8 (n : Int)] := by unfold enc1; rw [ofNat_toNat h]
set_option maxRecDepth 100000 in
set_option maxHeartbeats 2000000 in
theorem vbytes_any (n : Nat) (hn : n < 18446744073709551616) (w : World) : Calls Tryz.prog 146 #[.int .u64 (n : Int)] w (OwnedRet w 5 1 (vbytes n).length (encB (vbytes n))) := by
  have MK := fun W => mk10_run W
  have O0 : Hid ((w.alloc (.cells (Array.replicate 10 (.int .u8 0)) 5)).ownsRow w.heap.size 5 1 (.slice (some ⟨w.heap.size, 0, none⟩) 0 10) 0 []) :=
    ⟨rfl, .inr ⟨w.heap.size, 10, _, rfl, Nat.le_refl _, heap_alloc_new w _, Nat.zero_le _, by simp [maxLen], by simp, rfl⟩⟩
  have B0 : Hid (Below w.heap.size w (w.alloc (.cells (Array.replicate 10 (.int .u8 0)) 5))) := below_new _ _
  have LB : Hid ((vbytes n).length ≤ 10) := by
    have := vbytes_len 9 n (by omega)
    exact this
  go_enter Tryz.func146, Tryz.ntmps146
  go_wp2_with fail
  clear MK
  go_loopw [0, 3] (fun v s wr => ∃ (m : Nat) (out : List UInt8), v = .int .u64 (m : Int) ∧ m < 18446744073709551616 ∧ Hid (out ++ vbytes m = vbytes n) ∧ Hid (wr.ownsRow w.heap.size 5 1 s out.length (encB out)) ∧ Hid (Below w.heap.size w wr)) (fun v _ _ => (intOf v).toNat)
  case atStart => exact ⟨n, [], rfl, hn, rfl, O0.out, B0.out⟩
  case round =>
    clear O0 B0
    obtain ⟨m, out, rfl, hm, EQ, O, B⟩ := hrel
    have hm0 : (0 : Int) ≤ (m : Int) := by omega
    have hlen : out.length + (vbytes m).length ≤ 10 := by
      have h1 := congrArg List.length EQ.out
      rw [List.length_append] at h1
      have := LB.out
      omega
    have hp := vbytes_pos m
    have hol : out.length + 1 ≤ 10 := by omega
    clear hlen hp
    obtain ⟨A', c', rfl, _, _⟩ := Sl.of_own O.out
    have hbs := B.out.size
    have RC := fun u => low8_run m u
    by_cases hge : 128 ≤ m
    · have hgi : (128 : Int) ≤ (m : Int) := by omega
      have RO := fun u => or128_run (q := m % 256) (by omega) u
      have RS := fun u => shr7_run m u
      have E1 : Hid (m % 256 % 128 + 128 = m % 128 + 128) := by rw [Hid]; omega
      rw [E1.out] at RO
      have EN : Hid ((out ++ [UInt8.ofNat (m % 128 + 128)]) ++ vbytes (m / 128) = vbytes n) := by
        rw [Hid, List.append_assoc, ← EQ.out, vbytes_high (n := m) (by omega)]
        rfl
      clear EQ E1
      go_wp2_with (first
        | ((with_reducible refine wpList_binB (op := .or) ?_ ?_ ?_ (RO _) ?_); rfl; rfl; simp [eqGuard])
        | ((with_reducible refine wpList_binB (op := .shr) ?_ ?_ ?_ (RS _) ?_); rfl; rfl; simp [eqGuard])
        | (at_builtin; refine wpList_push byteSl O.out [.int .u8 ((m : Int) % 128 + 128)] rfl (by simp [Value.oneCell']) hbs (by omega) (by unfold maxLen; omega) (by rfl) (by rfl) (by rfl) ?_; intro v1 w6 own1 bel1))
      have B5 := Lib.hid (B.out.trans bel1)
      have O5 : Hid (w6.ownsRow w.heap.size 5 1 v1 (out ++ [UInt8.ofNat (m % 128 + 128)]).length (encB (out ++ [UInt8.ofNat (m % 128 + 128)]))) := by
        rw [Hid, encB_append, List.length_append]
        have e : encB [UInt8.ofNat (m % 128 + 128)] = [.int .u8 ((m : Int) % 128 + 128)] := by
          show enc1 _ ++ [] = _
          rw [enc1_nat (by omega), List.append_nil]
          congr 2
        rw [e]; exact own1
      clear own1 bel1 O B
      go_roundw
      case rel => exact ⟨m / 128, _, rfl, by omega, EN.out, O5.out, B5.out⟩
      case measure => simp [intOf]; omega
    · have hgi : ¬ (128 : Int) ≤ (m : Int) := by omega
      have E1 : m % 256 = m := by omega
      rw [E1] at RC
      have EN : Hid (out ++ [UInt8.ofNat m] = vbytes n) := by rw [Hid, ← EQ.out, vbytes_low (by omega)]
      clear EQ E1
      go_wp2_with (at_builtin; refine wpList_push byteSl O.out [.int .u8 (m : Int)] rfl (by simp [Value.oneCell']) hbs (by omega) (by unfold maxLen; omega) (by rfl) (by rfl) (by rfl) ?_; intro v1 w6 own1 bel1)
      have O5 : Hid (w6.ownsRow w.heap.size 5 1 v1 (vbytes n).length (encB (vbytes n))) := by
        rw [Hid, ← EN.out, encB_append, List.length_append]
        have e : encB [UInt8.ofNat m] = [.int .u8 (m : Int)] := by
          show enc1 _ ++ [] = _
          rw [enc1_nat (by omega), List.append_nil]
        rw [e]; exact own1
      have B5 := Lib.hid (B.out.trans bel1)
      clear own1 bel1 O B
      go_wp2
      go_ret
      exact ⟨_, rfl, O5.out, B5.out⟩
end Go.Proofs.YtihggkmjalofiaaGreatDoor

/- A number read out of bytes: the program's, walked. -/
namespace Go.Proofs.YtihggkmjalofiaaGreatDoor
open Go.RowKit

section
variable {P : Program} {ops : Array Oper} {rest : List Oper} {a : Act} {w : World} {Q : Exit → Act → World → Prop} {d : Option Tmp} {ty t : TypeId} {pos : String} {after : Array Edge} {x y : Operand}
theorem wpList_slB {lo hi mx : Option Operand} {xv v : Value} {lv hv mv : Option Value} (hx : a.eval x = xv) (hl : lo.map a.eval = lv) (hh : hi.map a.eval = hv) (hm : mx.map a.eval = mv) (hr : (Instr.sliceAt t xv lv hv mv).run P w = .ok v w)
    (h : wpList P ops Q rest (a.put d v) w) : wpList P ops Q (⟨d, .slice t x lo hi mx, ty, pos, after, none⟩ :: rest) a w :=
  wpList_plain rfl fun _ hK => by
    unfold Oper.wp execOp
    simp only [hx, hl, hh, hm, Sem.run_bind, hr, Result.andThen_ok, Sem.run_pure]
    exact hK _ _ h
theorem wpList_minB {n k m : Nat} (hm : m = min n k) (hx : a.eval x = .int .i64 (n : Int)) (hy : a.eval y = .int .i64 (k : Int)) {ts : Array TypeId} (h : wpList P ops Q rest (a.put d (.int .i64 (m : Int))) w) :
    wpList P ops Q (⟨d, .call { callee := .builtin .min, args := #[x, y], argTypes := ts }, ty, pos, after, none⟩ :: rest) a w :=
  wpList_plain rfl fun _ hK => by
    have hr : (Builtin.min_ ts ty #[.int .i64 (n : Int), .int .i64 (k : Int)]).run P w = .ok (.int .i64 (m : Int)) w := by
      subst hm
      simp only [Builtin.min_, List.foldlM, Builtin.min2]
      by_cases h : n ≤ k
      · have h2 : ¬ (k : Int) < (n : Int) := by omega
        simp [Nat.min_eq_left h, h2]
      · have h2 : (k : Int) < (n : Int) := by omega
        simp [Nat.min_eq_right (Nat.le_of_not_le h), h2]
    unfold Oper.wp execOp
    simp only [resolve, invoke, builtin, Sem.run_bind, Sem.run_pure, Result.andThen_ok, List.map_toArray, List.map_cons, List.map_nil, hx, hy, hr]
    exact hK _ _ h
end
/-- bytes of a slice -/
structure BytesAt (w : World) (A : Option Addr) (n c : Nat) (l : List UInt8) : Prop where
  len : l.length = n
  cap : n ≤ c
  big : c ≤ maxLen
  sl : Sl w w.heap.size 1 A n (encB l)
theorem BytesAt.ext {w w' : World} {A : Option Addr} {n c : Nat} {l : List UInt8} (h : BytesAt w A n c l) (hb : Below w.heap.size w w') : BytesAt w' A n c l := ⟨h.len, h.cap, h.big, (h.sl.below hb (Nat.le_refl _)).more hb.size⟩
theorem BytesAt.at_ {w : World} {A : Option Addr} {n c : Nat} {l : List UInt8} (h : BytesAt w A n c l) {k : Nat} (hk : k < n) : ∃ b o x, A = some ⟨b, o, none⟩ ∧ b < w.heap.size ∧ l[k]? = some x ∧ w.cell? ⟨b, o + k, none⟩ = some (.int .u8 ((x.toNat : Nat) : Int)) := by
  obtain ⟨b, o, u, e, hb, hu, hc⟩ := h.sl.at_ hk
  rw [encB_at] at hu
  cases hx : l[k]? with
  | none => rw [hx] at hu; cases hu
  | some x => rw [hx] at hu; exact ⟨b, o, x, e, hb, rfl, by rw [hc]; exact hu.symm⟩
theorem and127_fin : ∀ a : Fin 256, (a.val &&& 127) = a.val % 128 := fun a => Nat.and_two_pow_sub_one_eq_mod a.val 7
theorem and127 (x : UInt8) : bits .and .u8 ((x.toNat : Nat) : Int) 127 = ((x.toNat % 128 : Nat) : Int) := by
  have e := u8_and_nat x.toNat 127 x.toNat_lt (by omega)
  rw [and127_fin ⟨x.toNat, x.toNat_lt⟩] at e
  exact e
/-- a number with seven bits more -/
def moreV (acc y k : Nat) : Nat := acc ||| (y * 2 ^ (7 * k) % 18446744073709551616)
theorem moreV_lt {acc y k : Nat} (h : acc < 18446744073709551616) : moreV acc y k < 18446744073709551616 :=
  Nat.or_lt_two_pow (n := 64) h (Nat.mod_lt _ (by omega))
theorem moreV_eq {acc y k : Nat} (hk : k ≤ 9) (h : acc < 128 ^ k) (hy : y < 128) (h9 : k ≤ 8 ∨ y ≤ 1) : moreV acc y k = acc + y * 128 ^ k := by
  unfold moreV
  rw [pow7] at h ⊢
  have hlt : y * 2 ^ (7 * k) < 18446744073709551616 := by
    rcases h9 with h8 | h1
    · have h1 : y * 2 ^ (7 * k) ≤ 127 * 2 ^ (7 * k) := Nat.mul_le_mul_right _ (by omega)
      have h2 : 2 ^ (7 * k) ≤ 2 ^ 56 := Nat.pow_le_pow_right (by omega) (by omega)
      omega
    · have h1 : y * 2 ^ (7 * k) ≤ 1 * 2 ^ (7 * k) := Nat.mul_le_mul_right _ h1
      have h2 : 2 ^ (7 * k) ≤ 2 ^ 63 := Nat.pow_le_pow_right (by omega) (by omega)
      omega
  rw [Nat.mod_eq_of_lt hlt, Nat.or_comm, ← Nat.shiftLeft_eq, ← Nat.shiftLeft_add_eq_or_of_lt h, Nat.shiftLeft_eq]
  omega
theorem more_bits (x : UInt8) {acc : Nat} (k : Nat) (ha : acc < 18446744073709551616) :
    bits .or .u64 (acc : Int) (IntKind.u64.wrap (IntKind.u64.wrap (bits .and .u8 ((x.toNat : Nat) : Int) 127) * 2 ^ (7 * k))) = ((moreV acc (x.toNat % 128) k : Nat) : Int) := by
  have e1 : IntKind.u64.wrap ((x.toNat % 128 : Nat) : Int) = ((x.toNat % 128 : Nat) : Int) := by rw [IntKind.wrap_u64]; omega
  have e2 : IntKind.u64.wrap (((x.toNat % 128 : Nat) : Int) * 2 ^ (7 * k)) = ((x.toNat % 128 * 2 ^ (7 * k) % 18446744073709551616 : Nat) : Int) := by
    rw [IntKind.wrap_u64]; simp
  rw [and127, e1, e2, u64_or_nat _ _ ha (Nat.mod_lt _ (by omega))]
  rfl
set_option maxRecDepth 100000 in
set_option maxHeartbeats 2000000 in
theorem vread_any (l : List UInt8) (w : World) (A : Option Addr) (n c : Nat) (h : BytesAt w A n c l) : Calls Tryz.prog 252 #[.slice A n c] w (Ret w (.tuple #[.int .u64 ((vread l).1 : Int), .int .i64 ((vread l).2.1 : Int), .int .i64 ((vread l).2.2 : Int)])) := by
  have hnm : n ≤ maxLen := Nat.le_trans h.cap h.big
  unfold maxLen at hnm
  have hl := h.len
  obtain ⟨m, hm⟩ : ∃ m, m = min n 10 := ⟨_, rfl⟩
  have CH := Lib.hid (fun u => run_slice_high byteSl (A := A) (n := n) (c := c) (k := m) (by have := h.cap; omega) u)
  have SH : Hid (Sl w w.heap.size 1 (cutAddr A c 0 1) m (encB (l.take m))) := by
    have := Sl.cutHigh (k := m) (c := c) (l := l) (enc := enc1) h.sl h.len enc1_len (by omega)
    exact this
  generalize cutAddr A c 0 1 = A' at *
  have hmn : m ≤ n := by omega
  have hm10 : m ≤ 10 := by omega
  have HME : Hid (m = min n 10) := hm
  clear hm h
  go_enter Tryz.func252, Tryz.ntmps252
  go_wp2_with (first
    | (refine wpList_minB (k := 10) HME.out rfl rfl ?_)
    | (refine wpList_slB rfl rfl rfl rfl (CH.out _) ?_))
  clear CH
  go_loop [14, 5] (fun i v => ∃ k acc : Nat, k ≤ m ∧ i = .int .i64 (k : Int) ∧ v = .int .u64 (acc : Int) ∧ acc < 18446744073709551616 ∧ Hid (k ≤ 9 → acc < 128 ^ k) ∧ Hid (vgo k acc (l.drop k) = vread l)) (fun i _ => m - (intOf i).toNat)
  case atStart => exact ⟨0, 0, by omega, rfl, rfl, by omega, fun _ => by simp, by rw [Hid, List.drop_zero]; rfl⟩
  case round =>
    obtain ⟨k, acc, hk, rfl, rfl, ha, HA, HV⟩ := hrel
    have hk0 : (0 : Int) ≤ (k : Int) := by omega
    by_cases hlt : k < m
    · have hki : (k : Int) < (m : Int) := by omega
      obtain ⟨b, o, u, rfl, hb, hu, hc⟩ := SH.out.at_ hlt
      obtain ⟨x, hx, rfl⟩ : ∃ x, l[k]? = some x ∧ u = .int .u8 ((x.toNat : Nat) : Int) := by
        rw [encB_at, List.getElem?_take_of_lt hlt] at hu
        cases hx : l[k]? with
        | none => rw [hx] at hu; cases hu
        | some x => rw [hx] at hu; exact ⟨x, rfl, (Option.some.inj hu).symm⟩
      have EV : Hid (l.drop k = x :: l.drop (k + 1)) := by
        obtain ⟨h1, h2⟩ := List.getElem?_eq_some_iff.1 hx
        rw [Hid, List.drop_eq_getElem_cons h1, h2]
      have hxl := x.toNat_lt
      obtain ⟨q, hq⟩ : ∃ q, q = x.toNat := ⟨_, rfl⟩
      have MB := Lib.hid (more_bits x k ha)
      have hML := moreV_lt (y := x.toNat % 128) (k := k) ha
      have hME := Lib.hid (fun h9 => moreV_eq (acc := acc) (y := x.toNat % 128) (k := k) (by omega) (HA.out (by omega)) (by omega) h9)
      clear hu hx
      generalize moreV acc (x.toNat % 128) k = N at *
      rw [← hq] at hME
      by_cases hge : 128 ≤ q
      · have hgi : (128 : Int) ≤ ((x.toNat : Nat) : Int) := by omega
        have EN : Hid (vgo (k + 1) N (l.drop (k + 1)) = vread l) := by
          rw [Hid, ← HV.out, EV.out, vgo_more (by omega) (by omega)]
          by_cases h8 : k ≤ 8
          · rw [hME.out (.inl h8), hq]
          · rw [vgo_end _ _ _ (by omega), vgo_end _ _ _ (by omega)]
        have EA : Hid (k + 1 ≤ 9 → N < 128 ^ (k + 1)) := fun h9 => by
          rw [hME.out (.inl (by omega)), Nat.pow_succ]
          have h1 := HA.out (by omega)
          have h2 : q % 128 * 128 ^ k ≤ 127 * 128 ^ k := Nat.mul_le_mul_right _ (by omega)
          omega
        clear EV HV HA hME
        go_wp2_with fail
        go_round
        case rel => exact ⟨k + 1, N, by omega, by go_num, by rw [MB.out], hML, EA.out, EN.out⟩
        case measure => simp [intOf]; omega
      · have hgi : ¬ (128 : Int) ≤ ((x.toNat : Nat) : Int) := by omega
        by_cases h0 : q = 0
        · have z0 : (((x.toNat : Nat) : Int) == 0) = true := by rw [beq_iff_eq]; omega
          by_cases hk9 : 0 < k
          · have hki0 : (0 : Int) < (k : Int) := by omega
            have ER : Hid (vread l = (0, 0, 4)) := by rw [Hid, ← HV.out, EV.out]; exact vgo_bad (by omega) (by omega) (by omega)
            go_wp2
            refine bodyPost_ret (v := .tuple #[.int .u64 0, .int .i64 0, .int .i64 4]) ?_ rfl ⟨by rw [ER.out]; rfl, rfl⟩
            simp [results, Tryz.results252, go_sem]
          · have hki0 : ¬ (0 : Int) < (k : Int) := by omega
            have h9 : ((k : Int) == 9) = false := by rw [beq_eq_false_iff_ne]; omega
            have ER : Hid (vread l = (N, k + 1, 0)) := by
              rw [Hid, ← HV.out, EV.out, vgo_last (by omega) (by omega) (by omega), hME.out (by omega), ← hq, Nat.mod_eq_of_lt (show q < 128 by omega)]
            go_wp2
            refine bodyPost_ret (v := .tuple #[.int .u64 (N : Int), .int .i64 ((k + 1 : Nat) : Int), .int .i64 0]) ?_ rfl ⟨by rw [ER.out]; rfl, rfl⟩
            simp [results, Tryz.results252, go_sem, MB.out]
        · have z0 : (((x.toNat : Nat) : Int) == 0) = false := by rw [beq_eq_false_iff_ne]; omega
          by_cases hk9 : k = 9
          · have h9 : ((k : Int) == 9) = true := by rw [beq_iff_eq]; omega
            replace hk9 := Lib.hid hk9
            by_cases h1 : 1 < q
            · have h1i : (1 : Int) < ((x.toNat : Nat) : Int) := by omega
              have h1n : 1 < x.toNat := by omega
              have ER : Hid (vread l = (0, 0, 4)) := by rw [Hid, ← HV.out, EV.out]; exact vgo_bad (by omega) (by omega) (by have := hk9.out; omega)
              go_wp2
              refine bodyPost_ret (v := .tuple #[.int .u64 0, .int .i64 0, .int .i64 4]) ?_ rfl ⟨by rw [ER.out]; rfl, rfl⟩
              simp [results, Tryz.results252, go_sem]
            · have h1i : ¬ (1 : Int) < ((x.toNat : Nat) : Int) := by omega
              have h1n : ¬ 1 < x.toNat := by omega
              have ER : Hid (vread l = (N, k + 1, 0)) := by
                rw [Hid, ← HV.out, EV.out, vgo_last (by omega) (by omega) (by have := hk9.out; omega), hME.out (by omega), ← hq, Nat.mod_eq_of_lt (show q < 128 by omega)]
              go_wp2
              refine bodyPost_ret (v := .tuple #[.int .u64 (N : Int), .int .i64 ((k + 1 : Nat) : Int), .int .i64 0]) ?_ rfl ⟨by rw [ER.out]; rfl, rfl⟩
              simp [results, Tryz.results252, go_sem, MB.out]
          · have h9 : ((k : Int) == 9) = false := by rw [beq_eq_false_iff_ne]; omega
            have ER : Hid (vread l = (N, k + 1, 0)) := by
              rw [Hid, ← HV.out, EV.out, vgo_last (by omega) (by omega) (by omega), hME.out (by omega), ← hq, Nat.mod_eq_of_lt (show q < 128 by omega)]
            go_wp2
            refine bodyPost_ret (v := .tuple #[.int .u64 (N : Int), .int .i64 ((k + 1 : Nat) : Int), .int .i64 0]) ?_ rfl ⟨by rw [ER.out]; rfl, rfl⟩
            simp [results, Tryz.results252, go_sem, MB.out]
    · have hki : ¬ (k : Int) < (m : Int) := by omega
      have hkm : k = m := by omega
      by_cases h10 : 10 ≤ n
      · have hni : (10 : Int) ≤ (n : Int) := by omega
        have ER : Hid (vread l = (0, 0, 4)) := by rw [Hid, ← HV.out]; exact vgo_end _ _ _ (by have := HME.out; omega)
        go_wp2
        refine bodyPost_ret (v := .tuple #[.int .u64 0, .int .i64 0, .int .i64 4]) ?_ rfl ⟨by rw [ER.out]; rfl, rfl⟩
        simp [results, Tryz.results252, go_sem]
      · have hni : ¬ (10 : Int) ≤ (n : Int) := by omega
        have ER : Hid (vread l = (0, 0, 2)) := by
          have h1 := HME.out
          rw [Hid, ← HV.out, List.drop_of_length_le (by omega)]; exact vgo_nil (by omega)
        go_wp2
        refine bodyPost_ret (v := .tuple #[.int .u64 0, .int .i64 0, .int .i64 2]) ?_ rfl ⟨by rw [ER.out]; rfl, rfl⟩
        simp [results, Tryz.results252, go_sem]
end Go.Proofs.YtihggkmjalofiaaGreatDoor

/- Bytes that are written: the program's writer, walked. -/
namespace Go.Proofs.YtihggkmjalofiaaGreatDoor
open Go.RowKit

/-- an append of any slice: the row's own block alone has turned, and the row stays, or is new -/
theorem wp_catB {P : Program} {Q : Exit → Act → World → Prop} {K : Act → World → Prop} {a : Act} {w : World} {d : Option Tmp} {ty : TypeId} {pos : String} {after : Array Edge} {gd : Option (Nat × Bool)} {s x : Operand} {t e : TypeId} {size bytes : Nat} (T : SlT P t e size bytes)
    {base : Nat} {v : Value} {n : Nat} {xs : List Value} (hown : w.ownsRow base e size v n xs) {B : Nat} {A : Option Addr} {m c : Nat} {news : List Value} (hr : Sl w B size A m news) (h1 : ∀ u ∈ news, u.oneCell' = true) (hbase : base ≤ w.heap.size)
    (hb : (n + m) * bytes ≤ 140737488355328) (hm : n + m ≤ maxLen)
    (hs : a.eval s = v) (hx : a.eval x = .slice A m c)
    (h : ∀ v' w', w'.ownsRow base e size v' (n + m) (xs ++ news) → Kept (fun k => v.ownBlock = some k) w w' → (∀ k, v'.ownBlock = some k → v.ownBlock = some k ∨ w.heap.size ≤ k) → K (a.put d v') w') :
    Oper.wp P ⟨d, .call { callee := .builtin .append, args := #[s, x], argTypes := #[t, t] }, ty, pos, after, gd⟩ a w K Q := by
  obtain ⟨i, z, hi, hz, hsz, hby, hzs⟩ := T.hi
  rcases A with _ | ad
  · have hm0 : m = 0 := by
      rcases Nat.eq_zero_or_pos m with h0 | h0
      · exact h0
      · obtain ⟨b, o, he, _⟩ := hr.2 h0
        cases he
    subst hm0
    have hn : news = [] := List.eq_nil_of_length_eq_zero (by simpa using hr.1)
    subst hn
    have hrun := run_append_noAddr (P := P) (ty := ty) T.ht hi hown c
    unfold Oper.wp execOp
    simp only [resolve, invoke, builtin, Sem.run_bind, Sem.run_pure, Result.andThen_ok, List.map_toArray, List.map_cons, List.map_nil, hs, hx, hrun]
    exact h v w (by simpa using hown) (Kept.refl _ _) fun k e => .inl e
  · have hnews : ∀ j u, news[j]? = some u → w.cell? (ad.add j) = some u := by
      intro j u hu
      have hj : j < m * size := by
        have := (List.getElem?_eq_some_iff.1 hu).1
        rwa [hr.1] at this
      have hm0 : 0 < m := by
        rcases Nat.eq_zero_or_pos m with h0 | h0
        · subst h0; simp at hj
        · exact h0
      obtain ⟨b, o, he, _, hc⟩ := hr.2 hm0
      injection he with he
      subst he
      have ea : (⟨b, o, none⟩ : Addr).add j = ⟨b, o + j, none⟩ := by unfold Addr.add; split <;> simp_all
      rw [ea, hc j hj]; exact hu
    obtain ⟨v', w', hrun, h2, h3, h4⟩ := run_append_stays (P := P) (w := w) base t ty e i z size bytes T.ht hi hz hsz hby hzs T.pos v n xs hown ad m c news hr.1 hnews h1 hm hb hbase
    unfold Oper.wp execOp
    simp only [resolve, invoke, builtin, Sem.run_bind, Sem.run_pure, Result.andThen_ok, List.map_toArray, List.map_cons, List.map_nil, hs, hx, hrun]
    exact h v' w' h2 ⟨h3.os, h3.tape, h3.output, h3.size, fun k hk hn => h3.block k hk fun e => hn e.symm⟩ h4
theorem wpList_catB {P : Program} {ops : Array Oper} {rest : List Oper} {Q : Exit → Act → World → Prop} {a : Act} {w : World} {d : Option Tmp} {ty : TypeId} {pos : String} {after : Array Edge} {s x : Operand} {t e : TypeId} {size bytes : Nat} (T : SlT P t e size bytes)
    {base : Nat} {v : Value} {n : Nat} {xs : List Value} (hown : w.ownsRow base e size v n xs) {B : Nat} {A : Option Addr} {m c : Nat} {news : List Value} (hr : Sl w B size A m news) (h1 : ∀ u ∈ news, u.oneCell' = true) (hbase : base ≤ w.heap.size)
    (hb : (n + m) * bytes ≤ 140737488355328) (hm : n + m ≤ maxLen)
    (hs : a.eval s = v) (hx : a.eval x = .slice A m c)
    (h : ∀ v' w', w'.ownsRow base e size v' (n + m) (xs ++ news) → Kept (fun k => v.ownBlock = some k) w w' → (∀ k, v'.ownBlock = some k → v.ownBlock = some k ∨ w.heap.size ≤ k) → wpList P ops Q rest (a.put d v') w') :
    wpList P ops Q (⟨d, .call { callee := .builtin .append, args := #[s, x], argTypes := #[t, t] }, ty, pos, after, none⟩ :: rest) a w :=
  wpList_plain rfl fun _ hK => wp_catB T hown hr h1 hbase hb hm hs hx fun v' w' h2 h3 h4 => hK _ _ (h v' w' h2 h3 h4)
/-- an append of a string: the row stays where it is, or it is new -/
theorem run_append_str_stays {P : Program} {w : World} (base : Nat) (t u ty e : TypeId) (i : TypeInfo) (ht : P.underlying t = some (.slice e)) (hu : P.underlying u = some .string) (hi : P.info? e = some i) (hz : i.zero = some (.int .u8 0))
    (hsize : i.size = 1) (hby : i.bytes = 1) (v : Value) (n : Nat) (xs : List Value) (hown : w.ownsRow base e 1 v n xs) (s : ByteArray) (h63 : n + s.size ≤ maxLen) (hbytes : n + s.size ≤ 140737488355328) (hbase : base ≤ w.heap.size) :
    ∃ v' w', (Builtin.append_ #[t, u] ty #[v, .string s]).run P w = .ok v' w' ∧ w'.ownsRow base e 1 v' (n + s.size) (xs ++ Lib.strCells s) ∧ w.grownBy w' v.ownBlock ∧ (∀ k, v'.ownBlock = some k → v.ownBlock = some k ∨ w.heap.size ≤ k) := by
  obtain ⟨v', w', hr, h2, h3, h4⟩ := Lib.run_append_own_string (P := P) w base t u ty e i ht hu hi hz hsize hby v n xs hown s h63 hbytes hbase
  refine ⟨v', w', hr, h2, h3, fun k hk => ?_⟩
  have hsmall : n + s.size ≤ 9223372036854775807 := by simp only [maxLen] at h63; omega
  rcases hown.2 with ⟨rfl, rfl⟩ | ⟨g, cap, cur, rfl, hbg, hg, hnc, hcm, hcs, htake⟩
  · by_cases hm : s.size = 0
    · have := h4.2 ⟨rfl, hm⟩
      subst this
      cases hk
    · have hr' := run_append_nil_string (P := P) w t u ty e i (.int .u8 0) ht hu hi hz s (by omega) (by omega) (by rw [hby]; omega)
      rw [hr] at hr'
      injection hr' with e1 _
      subst e1
      simp only [Value.ownBlock, Option.some.injEq] at hk
      exact .inr (by omega)
  · by_cases hroom : n + s.size ≤ cap
    · have hr' := Lib.run_append_room_string (P := P) w t u ty e i ht hu hi hsize g n cap cur hg s hroom (by omega)
      rw [hr] at hr'
      injection hr' with e1 _
      subst e1
      exact .inl hk
    · have holds : ∀ j u, xs[j]? = some u → w.cell? ((⟨g, 0, none⟩ : Addr).add j) = some u := hown.cells (g := g) rfl
      have hr' := Lib.run_append_grow_string (P := P) w t u ty e i (.int .u8 0) ht hu hi hz ⟨g, 0, none⟩ n cap xs (by rw [hsize]; simpa using hown.1) holds s (by omega) (by omega) (by rw [hby]; exact growslice_fits (by omega) (by omega))
      rw [hr] at hr'
      injection hr' with e1 _
      subst e1
      simp only [Value.ownBlock, Option.some.injEq] at hk
      exact .inr (by omega)
theorem byteI : ∃ i, Tryz.prog.info? 5 = some i ∧ i.zero = some (.int .u8 0) ∧ i.size = 1 ∧ i.bytes = 1 := by
  have h : (Tryz.prog.info? 5).map (fun i => (i.zero, i.size, i.bytes)) = some (some (.int .u8 0), 1, 1) := by kernel_rfl
  cases hi : Tryz.prog.info? 5 with
  | none => rw [hi] at h; cases h
  | some i =>
    rw [hi] at h
    simp only [Option.map_some, Option.some.injEq, Prod.mk.injEq] at h
    exact ⟨i, rfl, h.1, h.2.1, h.2.2⟩
theorem wpList_strB {ops : Array Oper} {rest : List Oper} {Q : Exit → Act → World → Prop} {a : Act} {w : World} {d : Option Tmp} {ty : TypeId} {pos : String} {after : Array Edge} {y x : Operand}
    {base : Nat} {v : Value} {n : Nat} {xs : List Value} (hown : w.ownsRow base 5 1 v n xs) (s : ByteArray) (hbase : base ≤ w.heap.size) (hb : n + s.size ≤ 140737488355328) (hs : a.eval y = v) (hx : a.eval x = .string s)
    (h : ∀ v' w', w'.ownsRow base 5 1 v' (n + s.size) (xs ++ Lib.strCells s) → Kept (fun k => v.ownBlock = some k) w w' → (∀ k, v'.ownBlock = some k → v.ownBlock = some k ∨ w.heap.size ≤ k) → wpList Tryz.prog ops Q rest (a.put d v') w') :
    wpList Tryz.prog ops Q (⟨d, .call { callee := .builtin .append, args := #[y, x], argTypes := #[46, 9] }, ty, pos, after, none⟩ :: rest) a w := by
  obtain ⟨i, hi, hz, hsz, hby⟩ := byteI
  obtain ⟨v', w', hrun, h2, h3, h4⟩ := run_append_str_stays (P := Tryz.prog) base 46 9 ty 5 i Tryz.underlying46 Tryz.underlying9 hi hz hsz hby v n xs hown s (by unfold maxLen; omega) hb hbase
  refine wpList_plain rfl fun K hK => ?_
  unfold Oper.wp execOp
  simp only [resolve, invoke, builtin, Sem.run_bind, Sem.run_pure, Result.andThen_ok, List.map_toArray, List.map_cons, List.map_nil, hs, hx, hrun]
  exact hK _ _ (h v' w' h2 ⟨h3.os, h3.tape, h3.output, h3.size, fun k hk hn => h3.block k hk fun e => hn e.symm⟩ h4)
theorem strCells_enc (s : ByteArray) : Lib.strCells s = encB s.data.toList := by
  unfold Lib.strCells encB
  induction s.data.toList with
  | nil => rfl
  | cons x l ih => rw [List.map_cons, List.flatMap_cons, ih]; rfl
/-- a writer: what was written; F its blocks -/
structure WrAt (w : World) (F : Nat → Prop) (g : Nat) (l : List UInt8) : Prop where
  ex : ∃ s, Blk w g 139 #[s] ∧ w.ownsRow 0 5 1 s l.length (encB l) ∧ ∀ k, s.ownBlock = some k → F k
  fg : F g
  lt : ∀ q, F q → q < w.heap.size
theorem WrAt.ext {w w' : World} {F : Nat → Prop} {g : Nat} {l : List UInt8} (h : WrAt w F g l) (hb : Below w.heap.size w w') : WrAt w' F g l := by
  obtain ⟨s, h1, h2, h3⟩ := h.ex
  exact ⟨⟨s, h1.ext hb, own_keepF h2 fun k e => hb.block k (h2.lt k e).2, h3⟩, h.fg, fun q e => Nat.lt_of_lt_of_le (h.lt q e) hb.size⟩
def WrRet (w : World) (F : Nat → Prop) (g : Nat) (l : List UInt8) (e : Ending) (w' : World) : Prop := e = .returned (.tuple #[]) ∧ Kept F w w' ∧ ∃ F', WrAt w' F' g l ∧ ∀ q, F' q → F q ∨ w.heap.size ≤ q
/-- the new row is noted -/
theorem WrAt.put {w w6 : World} {F : Nat → Prop} {g : Nat} {s v1 : Value} {l m : List UInt8} {n : Nat} (hn : n = l.length) (K : Blk w g 139 #[s]) (O : w.ownsRow 0 5 1 s n (encB l)) (hs : ∀ k, s.ownBlock = some k → F k) (fg : F g) (lt : ∀ q, F q → q < w.heap.size)
    (own1 : w6.ownsRow 0 5 1 v1 (n + m.length) (encB l ++ encB m)) (kp : Kept (fun k => s.ownBlock = some k) w w6) (hv : ∀ k, v1.ownBlock = some k → s.ownBlock = some k ∨ w.heap.size ≤ k) :
    Kept F w (w6.setCell ⟨g, 0, none⟩ v1) ∧ ∃ F', WrAt (w6.setCell ⟨g, 0, none⟩ v1) F' g (l ++ m) ∧ ∀ q, F' q → F q ∨ w.heap.size ≤ q := by
  subst hn
  have K6 : Blk w6 g 139 #[s] := K.keep (kp.block g K.lt fun e => own_ne_blk O K (by decide) e rfl)
  have k2 : Kept (fun k => k = g) w6 (w6.setCell ⟨g, 0, none⟩ v1) := (Kept.refl (fun k => k = g) w6).setCell (p := ⟨g, 0, none⟩) (.inl rfl) v1
  refine ⟨(kp.mono fun k e => hs k e).trans k2 fun x e => .inl (e ▸ fg), fun q => F q ∨ v1.ownBlock = some q, ⟨⟨v1, ?_, ?_, fun k e => .inr e⟩, .inl fg, fun q e => ?_⟩, fun q e => ?_⟩
  · have := K6.set_ 0 v1
    simpa using this
  · rw [List.length_append, encB_append]
    exact own_keepF own1 fun k e => k2.block k (own1.lt k e).2 fun e2 => own_ne_blk own1 K6 (by decide) e e2
  · have hz := k2.size
    rcases e with e | e
    · have := lt q e
      have := kp.size
      omega
    · exact Nat.lt_of_lt_of_le (own1.lt q e).2 hz
  · rcases e with e | e
    · exact .inl e
    · exact (hv q e).elim (fun e => .inl (hs q e)) .inr
set_option maxRecDepth 100000 in
set_option maxHeartbeats 2000000 in
theorem wrByte_any {w : World} {F : Nat → Prop} {g : Nat} {l : List UInt8} (h : WrAt w F g l) (x : List UInt8) (A : Option Addr) (m c B : Nat) (hx : Sl w B 1 A m (encB x)) (hm : x.length = m) (hl : l.length + m ≤ 10000000) :
    Calls Tryz.prog 156 #[.pointer (some ⟨g, 0, none⟩), .slice A m c] w (WrRet w F g (l ++ x)) := by
  obtain ⟨s, K, O, hs⟩ := h.ex
  have hs := Lib.hid hs
  have fg := Lib.hid h.fg
  have lt := Lib.hid h.lt
  have KH := Lib.hid K
  have OH := Lib.hid O
  have XH := Lib.hid hx
  obtain ⟨A0, c0, rfl, _, _⟩ := Sl.of_own O
  have y0 : w.cell? ⟨g, 0, none⟩ = some (.slice A0 l.length c0) := K.cell 0
  clear K O hx h
  go_enter Tryz.func156, Tryz.ntmps156
  go_wp2_with (at_builtin; refine wpList_catB byteSl OH.out XH.out (encB_one x) (Nat.zero_le _) (by omega) (by unfold maxLen; omega) (by rfl) (by rfl) ?_; intro v1 w6 own1 kp hv1; obtain ⟨A1, c1, rfl, _, _⟩ := Sl.of_own own1; have K6 : Hid (Blk w6 g 139 #[.slice A0 l.length c0]) := KH.out.keep (kp.block g KH.out.lt fun e => own_ne_blk OH.out KH.out (by decide) e rfl); have y6 : w6.cell? ⟨g, 0, none⟩ = some (.slice A0 l.length c0) := K6.out.cell 0; have f6 : w6.frozen? ⟨g, 0, none⟩ = false := K6.out.fr 0)
  subst hm
  go_end0
  exact ⟨rfl, WrAt.put rfl KH.out OH.out hs.out fg.out lt.out own1 kp hv1⟩
end Go.Proofs.YtihggkmjalofiaaGreatDoor

/- Numbers and texts that are written: walked. -/
namespace Go.Proofs.YtihggkmjalofiaaGreatDoor
open Go.RowKit

theorem fieldW (g : Nat) (w : World) : (Instr.fieldAt 139 (.pointer (some ⟨g, 0, none⟩)) 0).run Tryz.prog w = .ok (.pointer (some ⟨g, 0, none⟩)) w := by simp [go_sem]
theorem loadB (b o : Nat) (w : World) (A : Option Addr) (n c : Nat) (h : w.cell? ⟨b, o, none⟩ = some (.slice A n c)) : (Instr.loadAt 46 (.pointer (some ⟨b, o, none⟩))).run Tryz.prog w = .ok (.slice A n c) w := by simp [go_sem, h]
theorem storeB (b o : Nat) (w : World) (A : Option Addr) (n c : Nat) {u : Value} (h : w.cell? ⟨b, o, none⟩ = some u) (hf : w.frozen? ⟨b, o, none⟩ = false) : (Instr.storeAt 46 (.pointer (some ⟨b, o, none⟩)) (.slice A n c)).run Tryz.prog w = .ok () (w.setCell ⟨b, o, none⟩ (.slice A n c)) := by simp [go_sem, h, hf]
def encU (l : List Nat) : List Value := l.map fun n : Nat => Value.int .u64 (n : Int)
theorem flat_vlen : ∀ ns : List Nat, (∀ n ∈ ns, n < 18446744073709551616) → (ns.flatMap vbytes).length ≤ 10 * ns.length
  | [], _ => by simp
  | n :: ns, h => by
    rw [List.flatMap_cons, List.length_append, List.length_cons]
    have h1 : (vbytes n).length ≤ 10 := vbytes_len 9 n (by have := h n (by simp); omega)
    have h2 := flat_vlen ns fun m hm => h m (by simp [hm])
    omega
theorem flat_take {l : List Nat} {k u : Nat} (h : l[k]? = some u) : (l.take (k + 1)).flatMap vbytes = (l.take k).flatMap vbytes ++ vbytes u := by
  rw [List.take_add_one, h, List.flatMap_append]
  simp
set_option maxRecDepth 100000 in
set_option maxHeartbeats 4000000 in
theorem wrNum_any {w : World} {F : Nat → Prop} {g : Nat} {l : List UInt8} (h : WrAt w F g l) (ns : List Nat) (hn : ∀ n ∈ ns, n < 18446744073709551616) (A : Option Addr) (m c : Nat) (hx : Sl w w.heap.size 1 A m (encU ns)) (hxF : ∀ b o, A = some ⟨b, o, none⟩ → ¬ F b) (hm : ns.length = m) (hl : l.length ≤ 1000000) (hm2 : m ≤ 1000) :
    Calls Tryz.prog 70 #[.pointer (some ⟨g, 0, none⟩), .slice A m c] w (WrRet w F g (l ++ ns.flatMap vbytes)) := by
  have H := Lib.hid h
  have HN := Lib.hid hn
  have XH := Lib.hid hx
  have XF := Lib.hid hxF
  have ML := Lib.hid hm
  have hcV : ∀ args u, (callFunc 146 args).run Tryz.prog u = .ok (.enter 146 args) u := enters_of Tryz.func146 (by kernel_rfl) rfl
  clear h hn hx hxF hm
  go_enter Tryz.func70, Tryz.ntmps70
  go_wp2_with fail
  go_loopw [10] (fun v wr => ∃ k : Nat, k ≤ m ∧ v = .int .i64 (k : Int) ∧ Hid (Kept F w wr) ∧ Hid (∃ F', WrAt wr F' g (l ++ (ns.take k).flatMap vbytes) ∧ ∀ q, F' q → F q ∨ w.heap.size ≤ q)) (fun v _ => m - (intOf v).toNat)
  case atStart => exact ⟨0, by omega, rfl, Kept.refl _ _, F, by rw [List.take_zero, List.flatMap_nil, List.append_nil]; exact H.out, fun q e => .inl e⟩
  case round =>
    obtain ⟨k, hk, rfl, KP, WR⟩ := hrel
    have hk0 : (0 : Int) ≤ (k : Int) := by omega
    by_cases hlt : k < m
    · have hki : (k : Int) < (m : Int) := by omega
      obtain ⟨b, o, e, rfl, hb, hu, hc⟩ := XH.out.at_ hlt
      obtain ⟨u, hu0, rfl⟩ : ∃ u, ns[k]? = some u ∧ e = .int .u64 (u : Int) := by
        unfold encU at hu
        rw [List.getElem?_map] at hu
        cases hx : ns[k]? with
        | none => rw [hx] at hu; cases hu
        | some u => rw [hx] at hu; exact ⟨u, rfl, (Option.some.inj hu).symm⟩
      have hu := HN.out u (List.mem_of_getElem? hu0)
      have FT := Lib.hid (flat_take hu0)
      have LV : Hid ((vbytes u).length ≤ 10) := vbytes_len 9 u (by omega)
      have hbc : wr.cell? ⟨b, o + k, none⟩ = some (.int .u64 (u : Int)) := (World.cell?_of_block (a := ⟨b, o + k, none⟩) (KP.out.block b hb (XF.out b o rfl))).trans hc
      obtain ⟨F', hW, hF⟩ := WR.out
      have hF := Lib.hid hF
      obtain ⟨s, kk, oo, hs⟩ := hW.ex
      have fg := Lib.hid hW.fg
      have lt := Lib.hid hW.lt
      have HS := Lib.hid hs
      have TL : Hid (((ns.take k).flatMap vbytes).length ≤ 10 * k) := by
        have h1 := flat_vlen (ns.take k) fun n hn => HN.out n (List.mem_of_mem_take hn)
        rw [List.length_take] at h1
        rw [Hid]; omega
      obtain ⟨n0, hn0⟩ : ∃ n0, n0 = (l ++ (ns.take k).flatMap vbytes).length := ⟨_, rfl⟩
      have hn0b : n0 ≤ 1100000 := by have := TL.out; rw [List.length_append] at hn0; omega
      rw [← hn0] at oo
      replace hn0 := Lib.hid hn0
      obtain ⟨A0, c0, rfl, _, _⟩ := Sl.of_own oo
      have K3 := Lib.hid kk
      have O3 := Lib.hid oo
      clear hW hs kk oo hu0 hc WR TL
      go_upto_region 4 with fail
      refine wp_region_Z (S := fun w' => w'.cell? ⟨g, 0, none⟩ = some (.slice A0 n0 c0)) (Z := [10]) mixedS ?_
      have S9 : Hid (wr.drew.cell? ⟨g, 0, none⟩ = some (.slice A0 n0 c0)) := K3.out.cell 0
      have K9 : Hid (Blk wr.drew g 139 #[.slice A0 n0 c0]) := K3.out
      have O9 : Hid (wr.drew.ownsRow 0 5 1 (.slice A0 n0 c0) n0 (encB (l ++ (ns.take k).flatMap vbytes))) := O3.out
      have KP9 : Hid (Kept F w wr.drew) := KP.out.drew
      have lt9 : Hid (∀ q, F' q → q < wr.drew.heap.size) := lt.out
      clear K3 O3 KP lt hbc
      generalize wr.drew = w9 at *
      simp only [List.size_toArray, List.length_cons, List.length_nil]
      have hL := LV.out
      refine zLight (i := 0) rfl (by kernel_rfl) (by kernel_rfl) (by kernel_rfl) (by kernel_rfl) (fun _ _ _ h => h) rfl (fun w' => exMove (v := .pointer (some ⟨g, 0, none⟩)) rfl) (fun _ => S9.out) ?_
      simp only [Act.put, List.setIfInBounds_toArray, List.set_cons_zero, List.set_cons_succ]
      refine zLight (i := 1) rfl (by kernel_rfl) (by kernel_rfl) (by kernel_rfl) (by kernel_rfl) (fun _ _ _ h => h) rfl (fun w' => exMove (v := .pointer (some ⟨g, 0, none⟩)) rfl) (fun _ => S9.out) ?_
      simp only [Act.put, List.setIfInBounds_toArray, List.set_cons_zero, List.set_cons_succ]
      refine zLight (i := 2) rfl (by kernel_rfl) (by kernel_rfl) (by kernel_rfl) (by kernel_rfl) (fun _ _ _ h => h) rfl (fun w' => exNil rfl) (fun _ => S9.out) ?_
      simp only [Act.put, List.setIfInBounds_toArray, List.set_cons_zero, List.set_cons_succ]
      refine zLight (i := 3) rfl (by kernel_rfl) (by kernel_rfl) (by kernel_rfl) (by kernel_rfl) (fun _ _ _ h => h) rfl (fun w' => exField rfl (fieldW g w')) (fun _ => S9.out) ?_
      simp only [Act.put, List.setIfInBounds_toArray, List.set_cons_zero, List.set_cons_succ]
      refine zV (i := 4) rfl (by kernel_rfl) (by kernel_rfl) (by kernel_rfl) (by kernel_rfl) (by kernel_rfl) (fun _ _ _ h => h) rfl (fun w' h => exLoad rfl (loadB g 0 w' _ _ _ h)) S9.out ?_
      simp only [Act.put, List.setIfInBounds_toArray, List.set_cons_zero, List.set_cons_succ]
      refine zLight (i := 5) rfl (by kernel_rfl) (by kernel_rfl) (by kernel_rfl) (by kernel_rfl) (fun _ _ _ h => h) rfl (fun w' => exMove (v := .int .u64 (u : Int)) rfl) (fun _ => S9.out) ?_
      simp only [Act.put, List.setIfInBounds_toArray, List.set_cons_zero, List.set_cons_succ]
      refine wpAnyZ_all (rs := [6]) (by kernel_rfl) (by simp) ?_
      intro i hi
      simp only [List.mem_cons, List.not_mem_nil, or_false] at hi
      subst hi
      refine wpOp_of rfl rfl (wp_called (args := #[.int .u64 (u : Int)]) hcV (by simp only [List.map_toArray, List.map_cons, List.map_nil]; rfl) (vbytes_any u hu w9) ?_)
      rintro e w2 ⟨_, rfl, own2, b2⟩
      have S2 : Hid (w2.cell? ⟨g, 0, none⟩ = some (.slice A0 n0 c0)) := (b2.cell (p := ⟨g, 0, none⟩) K9.out.lt).trans S9.out
      obtain ⟨AV, cV, rfl, _, hsV⟩ := Sl.of_own own2
      have O2 := Lib.hid (own_keepF O9.out fun k e => b2.block k (O9.out.lt k e).2)
      have K2 := Lib.hid (K9.out.ext b2)
      refine ⟨_, rfl, fun _ => S2.out, ?_⟩
      simp only [Act.put, List.setIfInBounds_toArray, List.set_cons_zero, List.set_cons_succ]
      refine wpAnyZ_all (rs := [7]) (by kernel_rfl) (by simp) ?_
      intro i hi
      simp only [List.mem_cons, List.not_mem_nil, or_false] at hi
      subst hi
      refine wpOp_of rfl rfl (wp_catB byteSl O2.out hsV (encB_one (vbytes u)) (Nat.zero_le _) (by omega) (by unfold maxLen; omega) rfl rfl ?_)
      intro v1 w6 own1 kp hv1
      have K6 : Hid (Blk w6 g 139 #[.slice A0 n0 c0]) := K2.out.keep (kp.block g K2.out.lt fun e => own_ne_blk O2.out K2.out (by decide) e rfl)
      refine ⟨fun _ => K6.out.cell 0, ?_⟩
      simp only [Act.put, List.setIfInBounds_toArray, List.set_cons_zero, List.set_cons_succ]
      obtain ⟨A6, c6, rfl, _, _⟩ := Sl.of_own own1
      refine zLight (i := 8) rfl (by kernel_rfl) (by kernel_rfl) (by kernel_rfl) (by kernel_rfl) (fun _ _ _ h => h) rfl (fun w' => exNil rfl) (fun _ => K6.out.cell 0) ?_
      simp only [Act.put, List.setIfInBounds_toArray, List.set_cons_zero, List.set_cons_succ]
      refine zLight (i := 9) rfl (by kernel_rfl) (by kernel_rfl) (by kernel_rfl) (by kernel_rfl) (fun _ _ _ h => h) rfl (fun w' => exField rfl (fieldW g w')) (fun _ => K6.out.cell 0) ?_
      simp only [Act.put, List.setIfInBounds_toArray, List.set_cons_zero, List.set_cons_succ]
      refine wpAnyZ_all (rs := [10]) (by kernel_rfl) (by simp) ?_
      intro i hi
      simp only [List.mem_cons, List.not_mem_nil, or_false] at hi
      subst hi
      refine wpOp_of rfl rfl (wpStored1 rfl rfl (storeB g 0 w6 _ _ _ (K6.out.cell 0) (K6.out.fr 0)) ?_)
      refine ⟨noZ (by kernel_rfl), ?_⟩
      refine wpAnyZ_done (by kernel_rfl) ?_ _
      have PW := WrAt.put hn0.out K2.out O2.out HS.out fg.out (fun q e => Nat.lt_of_lt_of_le (lt9.out q e) b2.size) own1 kp hv1
      obtain ⟨p1, F2, p2, p3⟩ := PW
      have KP5 : Hid (Kept F w (w6.setCell ⟨g, 0, none⟩ (.slice A6 (n0 + (vbytes u).length) c6))) := ((KP9.out.then b2).trans p1 fun x e => hF.out x e)
      have WR5 : Hid (∃ F', WrAt (w6.setCell ⟨g, 0, none⟩ (.slice A6 (n0 + (vbytes u).length) c6)) F' g (l ++ (ns.take (k + 1)).flatMap vbytes) ∧ ∀ q, F' q → F q ∨ w.heap.size ≤ q) := ⟨F2, by rw [FT.out, ← List.append_assoc]; exact p2, fun q e => (p3 q e).elim (hF.out q) (fun e => .inr (by have := KP9.out.size; have := b2.size; omega))⟩
      clear p1 p2 p3 own1 kp hv1 K2 O2 K6 S2 S9 K9 O9 KP9 b2 own2
      go_wp2_with fail
      go_roundw
      case rel => exact ⟨k + 1, by omega, by go_num, KP5.out, WR5.out⟩
      case measure => simp [intOf]; omega
    · have hki : ¬ (k : Int) < (m : Int) := by omega
      have hkm : k = m := by omega
      rw [List.take_of_length_le (by have := ML.out; omega)] at WR
      go_wp2
      go_end0
      exact ⟨rfl, KP.out, WR.out⟩
end Go.Proofs.YtihggkmjalofiaaGreatDoor

/- A text that is written, and all that was: walked. -/
namespace Go.Proofs.YtihggkmjalofiaaGreatDoor
open Go.RowKit

set_option maxRecDepth 100000 in
set_option maxHeartbeats 2000000 in
theorem wrText_any {w : World} {F : Nat → Prop} {g : Nat} {l : List UInt8} (h : WrAt w F g l) (s : ByteArray) (hl : l.length ≤ 900000) (hs : s.size ≤ 1000) :
    Calls Tryz.prog 75 #[.pointer (some ⟨g, 0, none⟩), .string s] w (WrRet w F g (l ++ (vbytes s.size ++ s.data.toList))) := by
  have H := Lib.hid h
  have hs0 : (0 : Int) ≤ (s.size : Int) := by omega
  have hs1 : (s.size : Int) ≤ 1000 := by omega
  have B0 : Hid (Below w.heap.size w (w.alloc (.cells #[.int .u64 (s.size : Int)] 76))) := below_new _ _
  have S0 : Hid (Sl (w.alloc (.cells #[.int .u64 (s.size : Int)] 76)) (w.alloc (.cells #[.int .u64 (s.size : Int)] 76)).heap.size 1 (some ⟨w.heap.size, 0, none⟩) 1 (encU [s.size])) := sl_fresh w _ 76 1 1 (encU [s.size]) rfl rfl
  have HN := Lib.hid (wrNum_any (H.out.ext B0.out) [s.size] (fun n hn => by rw [List.mem_singleton.1 hn]; omega) (some ⟨w.heap.size, 0, none⟩) 1 1 S0.out (fun b o e hf => by injection e with e; injection e with e _ _; have := H.out.lt b hf; omega) rfl (by omega) (by omega))
  clear h S0
  go_enter Tryz.func75, Tryz.ntmps75
  go_wp2_with fail
  refine HN.out.mono ?_
  rintro e w2 ⟨rfl, kp, F2, hW, hF⟩
  have KP : Hid (Kept F w w2) := (Kept.of_below B0.out).trans kp fun x e => .inl e
  have HF : Hid (∀ q, F2 q → F q ∨ w.heap.size ≤ q) := fun q e => (hF q e).elim .inl fun e => .inr (Nat.le_trans B0.out.size e)
  obtain ⟨s0, kk, oo, hs2⟩ := hW.ex
  have HS := Lib.hid hs2
  have fg := Lib.hid hW.fg
  have lt := Lib.hid hW.lt
  have K3 := Lib.hid kk
  have O3 := Lib.hid oo
  obtain ⟨n0, hn0⟩ : ∃ n0, n0 = (l ++ [s.size].flatMap vbytes).length := ⟨_, rfl⟩
  have hn0b : n0 ≤ 1000000 := by
    have h1 : (vbytes s.size).length ≤ 10 := vbytes_len 9 _ (by omega)
    rw [List.length_append, List.flatMap_cons, List.flatMap_nil, List.append_nil] at hn0
    omega
  rw [← hn0] at O3 oo
  replace hn0 := Lib.hid hn0
  obtain ⟨A0, c0, rfl, _, _⟩ := Sl.of_own oo
  have y0 : w2.cell? ⟨g, 0, none⟩ = some (.slice A0 n0 c0) := K3.out.cell 0
  clear kp hF hW hs2 kk oo HN H B0
  go_wp2_with (at_builtin; refine wpList_strB O3.out s (Nat.zero_le _) (by omega) (by rfl) (by rfl) ?_; intro v1 w6 own1 kp hv1; obtain ⟨A1, c1, rfl, _, _⟩ := Sl.of_own own1; have K6 : Hid (Blk w6 g 139 #[.slice A0 n0 c0]) := K3.out.keep (kp.block g K3.out.lt fun e => own_ne_blk O3.out K3.out (by decide) e rfl); have y6 : w6.cell? ⟨g, 0, none⟩ = some (.slice A0 n0 c0) := K6.out.cell 0; have f6 : w6.frozen? ⟨g, 0, none⟩ = false := K6.out.fr 0)
  have e1 : s.size = s.data.toList.length := rfl
  rw [strCells_enc, e1] at own1
  obtain ⟨p1, F3, p2, p3⟩ := WrAt.put hn0.out K3.out O3.out HS.out fg.out lt.out own1 kp hv1
  go_end0
  refine ⟨rfl, KP.out.trans p1 fun x e => HF.out x e, F3, ?_, fun q e => (p3 q e).elim (HF.out q) fun e => .inr (Nat.le_trans KP.out.size e)⟩
  rw [List.append_assoc] at p2
  simpa using p2
set_option maxRecDepth 100000 in
set_option maxHeartbeats 1000000 in
theorem cloneB (l : List UInt8) (w : World) (A : Option Addr) (n c : Nat) (hm : n ≤ 10000000) (hs : Sl w w.heap.size 1 A n (encB l)) (hl : l.length = n) :
    Calls Tryz.prog 152 #[.slice A n c] w (OwnedRet w 5 1 n (encB l)) := by
  have HE : ∀ u : World, (binOp .eql 46 (.slice A n c) (.slice none 0 0)).run Tryz.prog u = .ok (.bool A.isNone) u := fun u => Lib.run_eql_slice_nil u _ _ A n c 0 0 Tryz.underlying46
  have HS := Lib.hid hs
  have HL := Lib.hid hl
  clear hs hl
  cases A with
  | none =>
    have hn0 : n = 0 := by
      rcases Nat.eq_zero_or_pos n with h0 | h0
      · exact h0
      · obtain ⟨b, o, e, _⟩ := HS.out.2 h0; cases e
    subst hn0
    have hl : Hid (l = []) := List.length_eq_zero_iff.1 HL.out
    have HE' : ∀ u : World, (binOp .eql 46 (.slice none 0 c) (.slice none 0 0)).run Tryz.prog u = .ok (.bool true) u := HE
    clear HE
    go_enter Tryz.func152, Tryz.ntmps152
    go_wp2
    go_ret
    refine ⟨_, rfl, ?_, Below.refl _ _⟩
    rw [hl.out]
    exact World.ownsRow_nil _ _ _ _
  | some a =>
    have HE' : ∀ u : World, (binOp .eql 46 (.slice (some a) n c) (.slice none 0 0)).run Tryz.prog u = .ok (.bool false) u := HE
    clear HE
    have B0 : Hid (Below w.heap.size w (w.alloc (.cells #[] 5))) := below_new _ _
    have O0 : Hid ((w.alloc (.cells #[] 5)).ownsRow w.heap.size 5 1 (.slice (some ⟨w.heap.size, 0, none⟩) 0 0) 0 []) :=
      ⟨rfl, .inr ⟨w.heap.size, 0, #[], rfl, Nat.le_refl _, heap_alloc_new w _, Nat.le_refl _, by simp, rfl, rfl⟩⟩
    have S0 : Hid (Sl (w.alloc (.cells #[] 5)) w.heap.size 1 (some a) n (encB l)) := HS.out.below B0.out (Nat.le_refl _)
    go_enter Tryz.func152, Tryz.ntmps152
    go_wp2_with (at_builtin; refine wpList_cat byteSl O0.out S0.out (encB_one l) B0.out.size (by omega) (by unfold maxLen; omega) (by rfl) (by rfl) ?_)
    intro v' w' ho hb
    rw [Nat.zero_add, List.nil_append] at ho
    have O1 := Lib.hid ho
    have B1 := Lib.hid (B0.out.trans hb)
    clear ho hb
    obtain ⟨A2, c2, hv, _, _⟩ := Sl.of_own O1.out
    subst hv
    go_wp2
    go_ret
    exact ⟨_, rfl, O1.out, B1.out⟩
set_option maxRecDepth 100000 in
set_option maxHeartbeats 1000000 in
theorem wrBytes_any {w : World} {F : Nat → Prop} {g : Nat} {l : List UInt8} (h : WrAt w F g l) (hl : l.length ≤ 10000000) :
    Calls Tryz.prog 76 #[.pointer (some ⟨g, 0, none⟩)] w (OwnedRet w 5 1 l.length (encB l)) := by
  obtain ⟨s, K, O, _⟩ := h.ex
  obtain ⟨A0, c0, rfl, _, hsl⟩ := Sl.of_own O
  have HC := Lib.hid (cloneB l w A0 l.length c0 hl hsl rfl)
  have y0 : w.cell? ⟨g, 0, none⟩ = some (.slice A0 l.length c0) := K.cell 0
  clear K O h hsl
  go_enter Tryz.func76, Tryz.ntmps76
  go_wp2_with fail
  refine HC.out.mono ?_
  rintro e w2 ⟨v, rfl, o, b⟩
  go_wp2
  go_ret
  exact ⟨_, rfl, o, b⟩
end Go.Proofs.YtihggkmjalofiaaGreatDoor

/- Bytes that are read: the program's reader, walked. -/
namespace Go.Proofs.YtihggkmjalofiaaGreatDoor
open Go.RowKit

/-- a reader: what was not read, and what was wrong; the bytes lie below block B -/
structure RdAt (w : World) (B g : Nat) (l : List UInt8) (e : Nat) : Prop where
  ge : B ≤ g
  ex : ∃ A c, Blk w g 344 #[.slice A l.length c, .int .i64 (e : Int)] ∧ l.length ≤ c ∧ c ≤ maxLen ∧ Sl w B 1 A l.length (encB l)
theorem RdAt.ext {w w' : World} {B g e : Nat} {l : List UInt8} (h : RdAt w B g l e) (hb : Below w.heap.size w w') : RdAt w' B g l e := by
  obtain ⟨A, c, h1, h2, h3, h4⟩ := h.ex
  exact ⟨h.ge, A, c, h1.ext hb, h2, h3, h4.below hb (by have := h1.lt; have := h.ge; omega)⟩
def RdRet (w : World) (B g : Nat) (v : Value) (l : List UInt8) (e : Nat) (en : Ending) (w' : World) : Prop := en = .returned v ∧ Kept (fun k => k = g) w w' ∧ RdAt w' B g l e
set_option maxRecDepth 100000 in
set_option maxHeartbeats 1000000 in
theorem rdEnds_any {w : World} {B g e : Nat} {l : List UInt8} (h : RdAt w B g l e) : Calls Tryz.prog 251 #[.pointer (some ⟨g, 0, none⟩)] w (Ret w (.bool (!decide (e = 0)))) := by
  obtain ⟨A, c, h1, _⟩ := h.ex
  have y1 : w.cell? ⟨g, 1, none⟩ = some (.int .i64 (e : Int)) := h1.cell 1
  clear h h1
  by_cases h0 : e = 0
  · subst h0
    go_enter Tryz.func251, Tryz.ntmps251
    go_wp2
    go_ret
    exact ⟨rfl, rfl⟩
  · have h1 : (((e : Nat) : Int) == 0) = false := by rw [beq_eq_false_iff_ne]; omega
    have h2 : (((e : Nat) : Int) != 0) = true := by rw [bne_iff_ne]; omega
    rw [decide_eq_false h0]
    go_enter Tryz.func251, Tryz.ntmps251
    go_wp2
    go_ret
    exact ⟨rfl, rfl⟩
set_option maxRecDepth 100000 in
set_option maxHeartbeats 1000000 in
theorem rdErr_any {w : World} {B g e : Nat} {l : List UInt8} (h : RdAt w B g l e) : Calls Tryz.prog 177 #[.pointer (some ⟨g, 0, none⟩)] w (Ret w (.int .i64 (e : Int))) := by
  obtain ⟨A, c, h1, _⟩ := h.ex
  have y1 : w.cell? ⟨g, 1, none⟩ = some (.int .i64 (e : Int)) := h1.cell 1
  clear h h1
  go_enter Tryz.func177, Tryz.ntmps177
  go_wp2
  go_ret
  exact ⟨rfl, rfl⟩
set_option maxRecDepth 100000 in
set_option maxHeartbeats 1000000 in
theorem rdLeft_any {w : World} {B g e : Nat} {l : List UInt8} (h : RdAt w B g l e) : Calls Tryz.prog 257 #[.pointer (some ⟨g, 0, none⟩)] w (Ret w (.int .i64 (l.length : Int))) := by
  obtain ⟨A, c, h1, _⟩ := h.ex
  have y1 : w.cell? ⟨g, 0, none⟩ = some (.slice A l.length c) := h1.cell 0
  clear h h1
  go_enter Tryz.func257, Tryz.ntmps257
  go_wp2
  go_ret
  exact ⟨rfl, rfl⟩
def rEnd (l : List UInt8) (e : Nat) : Nat := if e = 0 ∧ 0 < l.length then 4 else e
set_option maxRecDepth 100000 in
set_option maxHeartbeats 1000000 in
theorem rdEnd_any {w : World} {B g e : Nat} {l : List UInt8} (h : RdAt w B g l e) : Calls Tryz.prog 180 #[.pointer (some ⟨g, 0, none⟩)] w (Ret w (.int .i64 (rEnd l e : Int))) := by
  have HE := Lib.hid (rdErr_any h)
  have HL := Lib.hid (rdLeft_any h)
  clear h
  by_cases h0 : e = 0
  · subst h0
    by_cases hl : 0 < l.length
    · have hli : (0 : Int) < (l.length : Int) := by omega
      have E : Hid (rEnd l 0 = 4) := if_pos ⟨rfl, hl⟩
      go_enter Tryz.func180, Tryz.ntmps180
      go_wp2_with fail
      refine HE.out.mono ?_
      rintro e _ ⟨rfl, rfl⟩
      go_wp2_with fail
      refine HL.out.mono ?_
      rintro e _ ⟨rfl, rfl⟩
      go_wp2
      go_ret
      exact ⟨by rw [E.out]; rfl, rfl⟩
    · have hli : ¬ (0 : Int) < (l.length : Int) := by omega
      have E : Hid (rEnd l 0 = 0) := if_neg fun h => hl h.2
      go_enter Tryz.func180, Tryz.ntmps180
      go_wp2_with fail
      refine HE.out.mono ?_
      rintro e _ ⟨rfl, rfl⟩
      go_wp2_with fail
      refine HL.out.mono ?_
      rintro e _ ⟨rfl, rfl⟩
      go_wp2_with fail
      refine HE.out.mono ?_
      rintro e _ ⟨rfl, rfl⟩
      go_wp2
      go_ret
      exact ⟨by rw [E.out]; rfl, rfl⟩
  · have h1 : (((e : Nat) : Int) == 0) = false := by rw [beq_eq_false_iff_ne]; omega
    have E : Hid (rEnd l e = e) := if_neg fun h => h0 h.1
    go_enter Tryz.func180, Tryz.ntmps180
    go_wp2_with fail
    refine HE.out.mono ?_
    rintro e _ ⟨rfl, rfl⟩
    go_wp2_with fail
    refine HE.out.mono ?_
    rintro e _ ⟨rfl, rfl⟩
    go_wp2
    go_ret
    exact ⟨by rw [E.out]; rfl, rfl⟩
set_option maxRecDepth 100000 in
set_option maxHeartbeats 1000000 in
theorem rdFail_any {w : World} {B g e : Nat} {l : List UInt8} (h : RdAt w B g l e) (e2 : Nat) : Calls Tryz.prog 253 #[.pointer (some ⟨g, 0, none⟩), .int .i64 (e2 : Int)] w (RdRet w B g (.tuple #[]) l e2) := by
  obtain ⟨A, c, h1, h2, h3, h4⟩ := h.ex
  have ge := Lib.hid h.ge
  have y1 : w.cell? ⟨g, 1, none⟩ = some (.int .i64 (e : Int)) := h1.cell 1
  have f1 : w.frozen? ⟨g, 1, none⟩ = false := h1.fr 1
  have K := Lib.hid h1
  have S := Lib.hid h4
  clear h h1 h4
  go_enter Tryz.func253, Tryz.ntmps253
  go_wp2
  go_end0
  have kp : Kept (fun k => k = g) w (w.setCell ⟨g, 1, none⟩ (.int .i64 (e2 : Int))) := (Kept.refl (fun k => k = g) w).setCell (p := ⟨g, 1, none⟩) (.inl rfl) _
  refine ⟨rfl, kp, ge.out, A, c, ?_, h2, h3, ?_⟩
  · have := K.out.set_ 1 (.int .i64 (e2 : Int))
    simpa using this
  · exact S.out.below (kp.below (B := B) (fun k e => e ▸ ge.out) (by have := K.out.lt; have := ge.out; omega)) (Nat.le_refl _)
/-- bytes go by -/
def TakeRet (w : World) (B g k : Nat) (l : List UInt8) (e : Nat) (en : Ending) (w' : World) : Prop := ∃ A c, en = .returned (.slice A k c) ∧ k ≤ c ∧ Sl w' B 1 A k (encB (l.take k)) ∧ Kept (fun k => k = g) w w' ∧ RdAt w' B g (l.drop k) e
set_option maxRecDepth 100000 in
set_option maxHeartbeats 1000000 in
theorem rdTake_any {w : World} {B g e : Nat} {l : List UInt8} (h : RdAt w B g l e) (k : Nat) (hk : k ≤ l.length) : Calls Tryz.prog 254 #[.pointer (some ⟨g, 0, none⟩), .int .i64 (k : Int)] w (TakeRet w B g k l e) := by
  obtain ⟨A, c, h1, h2, h3, h4⟩ := h.ex
  have ge := Lib.hid h.ge
  have y1 : w.cell? ⟨g, 0, none⟩ = some (.slice A l.length c) := h1.cell 0
  have f1 : w.frozen? ⟨g, 0, none⟩ = false := h1.fr 0
  have K := Lib.hid h1
  have S := Lib.hid h4
  have CH := Lib.hid (fun u => run_slice_high byteSl (A := A) (n := l.length) (c := c) (k := k) (by omega) u)
  have CL := Lib.hid (fun u => run_slice_low byteSl (A := A) (n := l.length) (c := c) (k := k) (by omega) u)
  have SH := Lib.hid (Sl.cutHigh (k := k) (c := c) (l := l) (enc := enc1) h4 rfl enc1_len hk)
  have SL := Lib.hid (Sl.cutLow (k := k) (c := c) (l := l) (enc := enc1) h4 rfl enc1_len hk h2)
  clear h h1 h4
  generalize cutAddr A c 0 1 = A1 at *
  generalize cutAddr A c k 1 = A2 at *
  go_enter Tryz.func254, Tryz.ntmps254
  go_wp2_with (first
    | (refine wpList_slB rfl rfl rfl rfl (CH.out _) ?_)
    | (refine wpList_slB rfl rfl rfl rfl (CL.out _) ?_))
  go_ret
  have kp : Kept (fun k => k = g) w (w.setCell ⟨g, 0, none⟩ (.slice A2 (l.length - k) (c - k))) := (Kept.refl (fun k => k = g) w).setCell (p := ⟨g, 0, none⟩) (.inl rfl) _
  have bl := kp.below (B := B) (fun k e => e ▸ ge.out) (by have := K.out.lt; have := ge.out; omega)
  refine ⟨A1, c, rfl, by omega, SH.out.below bl (Nat.le_refl _), kp, ge.out, A2, c - k, ?_, ?_, by omega, ?_⟩
  · have := K.out.set_ 0 (.slice A2 (l.length - k) (c - k))
    rw [List.length_drop]
    simpa using this
  · rw [List.length_drop]; omega
  · rw [List.length_drop]; exact SL.out.below bl (Nat.le_refl _)
end Go.Proofs.YtihggkmjalofiaaGreatDoor

/- A byte, a number and a text that are read: walked. -/
namespace Go.Proofs.YtihggkmjalofiaaGreatDoor
open Go.RowKit

/-- bytes as a text -/
def bytesOf (l : List UInt8) : ByteArray := ⟨l.toArray⟩
set_option maxRecDepth 100000 in
theorem strB_run {w : World} {B n c : Nat} {A : Option Addr} {l : List UInt8} (h : Sl w B 1 A n (encB l)) (hl : l.length = n) : (convert 46 9 (.slice A n c)).run Tryz.prog w = .ok (.string (bytesOf l)) w := by
  rcases Nat.eq_zero_or_pos n with h0 | h0
  · subst h0
    have : l = [] := List.eq_nil_of_length_eq_zero hl
    subst this
    cases A with
    | none => exact run_convert_bytes_nil w 46 5 Tryz.underlying46 Tryz.underlying5 0 c 9 Tryz.underlying9
    | some a =>
      rw [run_convert_bytes_string w 46 9 5 (some a) 0 c Tryz.underlying46 Tryz.underlying5 Tryz.underlying9]
      simp [Conv.bytesToString, loadCells, loadCellsFrom, bytesOf]
      rfl
  · obtain ⟨b, o, rfl, _, hc⟩ := h.2 h0
    have hr := run_convert_bytes_arg (P := Tryz.prog) w 46 5 Tryz.underlying46 Tryz.underlying5 b o n c (l.map fun x => ((x.toNat : Nat) : Int)) (by rw [List.length_map, hl]) (fun i hi => by
      have hx := hc i (by omega)
      rw [encB_at, List.getElem?_eq_getElem (by omega)] at hx
      rw [hx]
      simp [List.getD, List.getElem?_map, List.getElem?_eq_getElem (show i < l.length by omega)]) 9 Tryz.underlying9
    rw [hr]
    congr 2
    apply ByteArray.ext
    apply Array.toList_inj.1
    rw [strOfNums_data, List.map_map]
    show _ = l
    conv => rhs; rw [← List.map_id l]
    apply List.map_congr_left
    intro x _
    simp
theorem kept_then {w w1 w2 : World} {g : Nat} (k1 : Kept (fun k => k = g) w w1) (k2 : Kept (fun k => k = g) w1 w2) : Kept (fun k => k = g) w w2 := k1.trans k2 fun _ e => .inl e
def rByte (most : Nat) (l : List UInt8) (e : Nat) : Nat × List UInt8 × Nat :=
  if e ≠ 0 then (0, l, e) else match l with
    | [] => (0, [], 2)
    | x :: t => if most < x.toNat then (0, x :: t, 1) else (x.toNat, t, 0)
theorem rByte_err {most e : Nat} {l : List UInt8} (h : e ≠ 0) : rByte most l e = (0, l, e) := if_pos h
theorem rByte_nil {most : Nat} : rByte most [] 0 = (0, [], 2) := rfl
theorem rByte_more {most : Nat} {x : UInt8} {t : List UInt8} (h : most < x.toNat) : rByte most (x :: t) 0 = (0, x :: t, 1) := by simp [rByte, h]
theorem rByte_yes {most : Nat} {x : UInt8} {t : List UInt8} (h : ¬ most < x.toNat) : rByte most (x :: t) 0 = (x.toNat, t, 0) := by simp [rByte, h]
def rNum (most : Nat) (l : List UInt8) (e : Nat) : Nat × List UInt8 × Nat :=
  if e ≠ 0 then (0, l, e) else if (vread l).2.2 ≠ 0 then (0, l, (vread l).2.2) else if most < (vread l).1 then (0, l, 1) else ((vread l).1, l.drop (vread l).2.1, 0)
def rText (most : Nat) (l : List UInt8) (e : Nat) : List UInt8 × List UInt8 × Nat :=
  if e ≠ 0 then ([], l, e) else if (vread l).2.2 ≠ 0 then ([], l, (vread l).2.2) else if most < (vread l).1 then ([], l, 3)
  else if l.length - (vread l).2.1 < (vread l).1 then ([], l, 2) else ((l.drop (vread l).2.1).take (vread l).1, (l.drop (vread l).2.1).drop (vread l).1, 0)
set_option maxRecDepth 100000 in
set_option maxHeartbeats 2000000 in
theorem rdByte_any {w : World} {B g e : Nat} {l : List UInt8} (h : RdAt w B g l e) (most : Nat) :
    Calls Tryz.prog 255 #[.pointer (some ⟨g, 0, none⟩), .int .u8 (most : Int)] w (RdRet w B g (.int .u8 ((rByte most l e).1 : Int)) (rByte most l e).2.1 (rByte most l e).2.2) := by
  have H := Lib.hid h
  have HE := Lib.hid (rdEnds_any h)
  have KR := Lib.hid (Kept.refl (fun k => k = g) w)
  by_cases h0 : e = 0
  · subst h0
    obtain ⟨A, c, h1, h2, h3, h4⟩ := h.ex
    have y0 : w.cell? ⟨g, 0, none⟩ = some (.slice A l.length c) := h1.cell 0
    cases l with
    | nil =>
      simp only [List.length_nil] at y0
      rw [rByte_nil]
      have HF := Lib.hid (rdFail_any H.out 2)
      clear h h1 h2 h3
      go_enter Tryz.func255, Tryz.ntmps255
      go_wp2_with fail
      refine HE.out.mono ?_
      rintro e _ ⟨rfl, rfl⟩
      go_wp2_with fail
      refine HF.out.mono ?_
      rintro e w2 ⟨rfl, kp, R⟩
      go_wp2
      go_ret
      exact ⟨rfl, kp, R⟩
    | cons x t =>
      obtain ⟨b, o, u, rfl, hb, hu, hc⟩ := h4.at_ (k := 0) (by simp)
      have hx : w.cell? ⟨b, o, none⟩ = some (.int .u8 ((x.toNat : Nat) : Int)) := by
        rw [Nat.add_zero] at hc
        rw [hc]; exact hu.symm
      have hl0 : ((((x :: t).length : Nat) : Int) == 0) = false := by rw [beq_eq_false_iff_ne, List.length_cons]; omega
      have hl1 : (0 : Int) < ((((x :: t).length : Nat) : Int)) := by rw [List.length_cons]; omega
      obtain ⟨n, hn⟩ : ∃ n, n = (x :: t).length := ⟨_, rfl⟩
      rw [← hn] at hl0 hl1 y0
      have HT := Lib.hid (rdTake_any H.out 1 (by simp))
      have HF := Lib.hid (rdFail_any H.out 1)
      clear h h1 h2 h3 hc hu h4
      by_cases hmx : most < x.toNat
      · have hmi : (most : Int) < ((x.toNat : Nat) : Int) := by omega
        rw [rByte_more hmx]
        clear hn
        go_enter Tryz.func255, Tryz.ntmps255
        go_wp2_with fail
        refine HE.out.mono ?_
        rintro e _ ⟨rfl, rfl⟩
        go_wp2_with fail
        refine HF.out.mono ?_
        rintro e w2 ⟨rfl, kp, R⟩
        go_wp2
        go_ret
        exact ⟨rfl, kp, R⟩
      · have hmi : ¬ (most : Int) < ((x.toNat : Nat) : Int) := by omega
        rw [rByte_yes hmx]
        clear hn
        go_enter Tryz.func255, Tryz.ntmps255
        go_wp2_with fail
        refine HE.out.mono ?_
        rintro e _ ⟨rfl, rfl⟩
        go_wp2_with fail
        refine HT.out.mono ?_
        rintro e w2 ⟨A2, c2, rfl, hc2, sl, kp, R⟩
        obtain ⟨b2, o2, u2, rfl, _, hu2, hc3⟩ := sl.at_ (k := 0) (by omega)
        have hx2 : w2.cell? ⟨b2, o2, none⟩ = some (.int .u8 ((x.toNat : Nat) : Int)) := by
          rw [Nat.add_zero] at hc3
          rw [hc3]; exact hu2.symm
        have KP := Lib.hid kp
        have R2 := Lib.hid R
        clear kp R sl hc3 hu2 hx y0 HF HT HE H
        go_wp2
        go_ret
        exact ⟨rfl, KP.out, R2.out⟩
  · rw [decide_eq_false h0] at HE
    rw [rByte_err h0]
    clear h
    go_enter Tryz.func255, Tryz.ntmps255
    go_wp2_with fail
    refine HE.out.mono ?_
    rintro e _ ⟨rfl, rfl⟩
    go_wp2
    go_ret
    exact ⟨rfl, KR.out, H.out⟩
theorem rdAll {w : World} {B g e : Nat} {l : List UInt8} (h : RdAt w B g l e) : ∃ A c, w.cell? ⟨g, 0, none⟩ = some (.slice A l.length c) ∧ BytesAt w A l.length c l := by
  obtain ⟨A, c, h1, h2, h3, h4⟩ := h.ex
  exact ⟨A, c, h1.cell 0, rfl, h2, h3, h4.more (by have := h1.lt; have := h.ge; omega)⟩
theorem vread_lt (l : List UInt8) : (vread l).1 < 18446744073709551616 := by
  rcases vread_err l with h | h | h
  · obtain ⟨h1, _⟩ := vread_told (l := l) (n := (vread l).1) (k := (vread l).2.1) (by rw [← h])
    exact h1
  · rw [h]; decide
  · rw [h]; decide
set_option maxRecDepth 100000 in
set_option maxHeartbeats 2000000 in
theorem rdNum_any {w : World} {B g e : Nat} {l : List UInt8} (h : RdAt w B g l e) (most : Nat) :
    Calls Tryz.prog 176 #[.pointer (some ⟨g, 0, none⟩), .int .u64 (most : Int)] w (RdRet w B g (.int .u64 ((rNum most l e).1 : Int)) (rNum most l e).2.1 (rNum most l e).2.2) := by
  have H := Lib.hid h
  have HE := Lib.hid (rdEnds_any h)
  have KR := Lib.hid (Kept.refl (fun k => k = g) w)
  by_cases h0 : e = 0
  · subst h0
    obtain ⟨A, c, y0, ba⟩ := rdAll h
    have HV := Lib.hid (vread_any l w A l.length c ba)
    have hle := Lib.hid (fun n k he => vread_len (l := l) (n := n) (k := k) he)
    obtain ⟨n, k, e1, hv⟩ : ∃ n k e1, vread l = (n, k, e1) := ⟨_, _, _, rfl⟩
    have ER : Hid (rNum most l 0 = if e1 ≠ 0 then (0, l, e1) else if most < n then (0, l, 1) else (n, l.drop k, 0)) := by
      rw [Hid]; unfold rNum; rw [if_neg (by simp), hv]
    rw [hv] at HV hle
    clear h ba hv
    by_cases h1 : e1 = 0
    · subst h1
      have hk := hle.out n k rfl
      by_cases hm : most < n
      · have hmi : (most : Int) < (n : Int) := by omega
        have HF := Lib.hid (rdFail_any H.out 1)
        rw [show rNum most l 0 = (0, l, 1) by rw [ER.out, if_neg (by simp), if_pos hm]]
        clear ER hle
        go_enter Tryz.func176, Tryz.ntmps176
        go_wp2_with fail
        refine HE.out.mono ?_
        rintro e _ ⟨rfl, rfl⟩
        go_wp2_with fail
        refine HV.out.mono ?_
        rintro e _ ⟨rfl, rfl⟩
        go_wp2_with fail
        refine HF.out.mono ?_
        rintro e w2 ⟨rfl, kp, R⟩
        go_wp2
        go_ret
        exact ⟨rfl, kp, R⟩
      · have hmi : ¬ (most : Int) < (n : Int) := by omega
        have HT := Lib.hid (rdTake_any H.out k hk)
        rw [show rNum most l 0 = (n, l.drop k, 0) by rw [ER.out, if_neg (by simp), if_neg hm]]
        clear ER hle
        go_enter Tryz.func176, Tryz.ntmps176
        go_wp2_with fail
        refine HE.out.mono ?_
        rintro e _ ⟨rfl, rfl⟩
        go_wp2_with fail
        refine HV.out.mono ?_
        rintro e _ ⟨rfl, rfl⟩
        go_wp2_with fail
        refine HT.out.mono ?_
        rintro e w2 ⟨A2, c2, rfl, hc2, sl, kp, R⟩
        have KP := Lib.hid kp
        have R2 := Lib.hid R
        clear kp R sl
        go_wp2
        go_ret
        exact ⟨rfl, KP.out, R2.out⟩
    · have z0 : (((e1 : Nat) : Int) == 0) = false := by rw [beq_eq_false_iff_ne]; omega
      have z1 : (((e1 : Nat) : Int) != 0) = true := by rw [bne_iff_ne]; omega
      have HF := Lib.hid (rdFail_any H.out e1)
      rw [show rNum most l 0 = (0, l, e1) by rw [ER.out, if_pos h1]]
      clear ER hle
      go_enter Tryz.func176, Tryz.ntmps176
      go_wp2_with fail
      refine HE.out.mono ?_
      rintro e _ ⟨rfl, rfl⟩
      go_wp2_with fail
      refine HV.out.mono ?_
      rintro e _ ⟨rfl, rfl⟩
      go_wp2_with fail
      refine HF.out.mono ?_
      rintro e w2 ⟨rfl, kp, R⟩
      go_wp2
      go_ret
      exact ⟨rfl, kp, R⟩
  · rw [decide_eq_false h0] at HE
    rw [show rNum most l e = (0, l, e) from if_pos h0]
    clear h
    go_enter Tryz.func176, Tryz.ntmps176
    go_wp2_with fail
    refine HE.out.mono ?_
    rintro e _ ⟨rfl, rfl⟩
    go_wp2
    go_ret
    exact ⟨rfl, KR.out, H.out⟩
end Go.Proofs.YtihggkmjalofiaaGreatDoor

/- A text that is read; a reader that is opened: walked. -/
namespace Go.Proofs.YtihggkmjalofiaaGreatDoor
open Go.RowKit

theorem wpList_convB {P : Program} {ops : Array Oper} {rest : List Oper} {a : Act} {w : World} {Q : Exit → Act → World → Prop} {d : Option Tmp} {ty s t : TypeId} {pos : String} {after : Array Edge} {x : Operand} {xv v : Value} (hx : a.eval x = xv) (hr : (convert s t xv).run P w = .ok v w)
    (h : wpList P ops Q rest (a.put d v) w) : wpList P ops Q (⟨d, .convert s t x, ty, pos, after, none⟩ :: rest) a w :=
  wpList_plain rfl fun _ hK => by
    unfold Oper.wp execOp
    simp only [hx, Sem.run_bind, hr, Result.andThen_ok, Sem.run_pure]
    exact hK _ _ h
set_option maxRecDepth 100000 in
set_option maxHeartbeats 4000000 in
theorem rdText_any {w : World} {B g e : Nat} {l : List UInt8} (h : RdAt w B g l e) (most : Nat) (hmost : most ≤ 100000) :
    Calls Tryz.prog 178 #[.pointer (some ⟨g, 0, none⟩), .int .i64 (most : Int)] w (RdRet w B g (.string (bytesOf (rText most l e).1)) (rText most l e).2.1 (rText most l e).2.2) := by
  have H := Lib.hid h
  have HE := Lib.hid (rdEnds_any h)
  have KR := Lib.hid (Kept.refl (fun k => k = g) w)
  by_cases h0 : e = 0
  · subst h0
    obtain ⟨A, c, y0, ba⟩ := rdAll h
    have HV := Lib.hid (vread_any l w A l.length c ba)
    have hle := Lib.hid (fun n k he => vread_len (l := l) (n := n) (k := k) he)
    have hlm : l.length ≤ maxLen := Nat.le_trans ba.cap ba.big
    unfold maxLen at hlm
    obtain ⟨n, k, e1, hv⟩ : ∃ n k e1, vread l = (n, k, e1) := ⟨_, _, _, rfl⟩
    have hn64 := vread_lt l
    have ER : Hid (rText most l 0 = if e1 ≠ 0 then ([], l, e1) else if most < n then ([], l, 3) else if l.length - k < n then ([], l, 2) else ((l.drop k).take n, (l.drop k).drop n, 0)) := by
      rw [Hid]; unfold rText; rw [if_neg (by simp), hv]
    rw [hv] at HV hle hn64
    clear h ba hv
    by_cases h1 : e1 = 0
    · subst h1
      have hk := hle.out n k rfl
      have hm0 : ¬ (most : Int) < 0 := by omega
      have hmw : IntKind.u64.wrap (most : Int) = (most : Int) := by rw [IntKind.wrap_u64]; omega
      by_cases hm : most < n
      · have hmi : (most : Int) < (n : Int) := by omega
        have HF := Lib.hid (rdFail_any H.out 3)
        rw [show rText most l 0 = ([], l, 3) by rw [ER.out, if_neg (by simp), if_pos hm]]
        clear ER hle
        go_enter Tryz.func178, Tryz.ntmps178
        go_wp2_with fail
        refine HE.out.mono ?_
        rintro e _ ⟨rfl, rfl⟩
        go_wp2_with fail
        refine HV.out.mono ?_
        rintro e _ ⟨rfl, rfl⟩
        go_wp2_with fail
        refine HF.out.mono ?_
        rintro e w2 ⟨rfl, kp, R⟩
        go_wp2
        go_ret
        exact ⟨rfl, kp, R⟩
      · have hmi : ¬ (most : Int) < (n : Int) := by omega
        obtain ⟨r, hr⟩ : ∃ r, r = l.length - k := ⟨_, rfl⟩
        have hri : ((l.length : Nat) : Int) - (k : Int) = (r : Int) := by omega
        have hrw : IntKind.u64.wrap (((l.length : Nat) : Int) - (k : Int)) = (r : Int) := by rw [hri, IntKind.wrap_u64]; omega
        have hrw2 : IntKind.u64.wrap (r : Int) = (r : Int) := by rw [IntKind.wrap_u64]; omega
        rw [← hr] at ER
        by_cases hs : r < n
        · have hsi : (r : Int) < (n : Int) := by omega
          have HF := Lib.hid (rdFail_any H.out 2)
          rw [show rText most l 0 = ([], l, 2) by rw [ER.out, if_neg (by simp), if_neg hm, if_pos hs]]
          clear ER hle hr
          go_enter Tryz.func178, Tryz.ntmps178
          go_wp2_with fail
          refine HE.out.mono ?_
          rintro e _ ⟨rfl, rfl⟩
          go_wp2_with fail
          refine HV.out.mono ?_
          rintro e _ ⟨rfl, rfl⟩
          go_wp2_with fail
          refine HF.out.mono ?_
          rintro e w2 ⟨rfl, kp, R⟩
          go_wp2
          go_ret
          exact ⟨rfl, kp, R⟩
        · have hsi : ¬ (r : Int) < (n : Int) := by omega
          have HT := Lib.hid (rdTake_any H.out k hk)
          have hdl : n ≤ (l.drop k).length := by rw [List.length_drop]; omega
          have hni : (n : Int) ≤ 100000 := by omega
          have hn0 : (0 : Int) ≤ (n : Int) := by omega
          have hDL := Lib.hid hdl
          rw [show rText most l 0 = ((l.drop k).take n, (l.drop k).drop n, 0) by rw [ER.out, if_neg (by simp), if_neg hm, if_neg hs]]
          clear ER hle hr hdl
          go_enter Tryz.func178, Tryz.ntmps178
          go_wp2_with fail
          refine HE.out.mono ?_
          rintro e _ ⟨rfl, rfl⟩
          go_wp2_with fail
          refine HV.out.mono ?_
          rintro e _ ⟨rfl, rfl⟩
          go_wp2_with fail
          refine HT.out.mono ?_
          rintro e w2 ⟨A2, c2, rfl, hc2, sl, kp, R⟩
          have KP := Lib.hid kp
          have HT2 := Lib.hid (rdTake_any R n hDL.out)
          clear kp R sl HT
          go_wp2_with fail
          refine HT2.out.mono ?_
          rintro e w3 ⟨A3, c3, rfl, hc3, sl, kp, R⟩
          have KP3 := Lib.hid (kept_then KP.out kp)
          have R3 := Lib.hid R
          have CV := Lib.hid (strB_run (c := c3) sl (by rw [List.length_take]; have := hDL.out; omega))
          clear kp R sl HT2 KP
          go_wp2_with (refine wpList_convB rfl CV.out ?_)
          go_ret
          exact ⟨rfl, KP3.out, R3.out⟩
    · have z0 : (((e1 : Nat) : Int) == 0) = false := by rw [beq_eq_false_iff_ne]; omega
      have z1 : (((e1 : Nat) : Int) != 0) = true := by rw [bne_iff_ne]; omega
      have HF := Lib.hid (rdFail_any H.out e1)
      rw [show rText most l 0 = ([], l, e1) by rw [ER.out, if_pos h1]]
      clear ER hle
      go_enter Tryz.func178, Tryz.ntmps178
      go_wp2_with fail
      refine HE.out.mono ?_
      rintro e _ ⟨rfl, rfl⟩
      go_wp2_with fail
      refine HV.out.mono ?_
      rintro e _ ⟨rfl, rfl⟩
      go_wp2_with fail
      refine HF.out.mono ?_
      rintro e w2 ⟨rfl, kp, R⟩
      go_wp2
      go_ret
      exact ⟨rfl, kp, R⟩
  · rw [decide_eq_false h0] at HE
    rw [show rText most l e = ([], l, e) from if_pos h0]
    clear h
    go_enter Tryz.func178, Tryz.ntmps178
    go_wp2_with fail
    refine HE.out.mono ?_
    rintro e _ ⟨rfl, rfl⟩
    go_wp2
    go_ret
    exact ⟨rfl, KR.out, H.out⟩
/-- a reader of bytes -/
def OpenRet (w : World) (l : List UInt8) (en : Ending) (w' : World) : Prop := ∃ g, en = .returned (.pointer (some ⟨g, 0, none⟩)) ∧ RdAt w' w.heap.size g l 0 ∧ Below w.heap.size w w' ∧ g = w.heap.size
theorem buildRest (A : Option Addr) (n c : Nat) (w : World) : (Instr.build 342 #[(0, .slice A n c)]).run Tryz.prog w = .ok (.agg #[.slice A n c, .int .i64 0]) w := by kernel_rfl
theorem buildReader (A : Option Addr) (n c : Nat) (w : World) : (Instr.build 344 #[(0, .agg #[.slice A n c, .int .i64 0])]).run Tryz.prog w = .ok (.agg #[.slice A n c, .int .i64 0]) w := by kernel_rfl
set_option maxRecDepth 100000 in
set_option maxHeartbeats 1000000 in
theorem rdOpen_any (l : List UInt8) (w : World) (A : Option Addr) (n c : Nat) (h : BytesAt w A n c l) : Calls Tryz.prog 175 #[.slice A n c] w (OpenRet w l) := by
  have hl := h.len
  subst hl
  have K : Hid (Blk (w.alloc (.cells #[.slice A l.length c, .int .i64 0] 344)) w.heap.size 344 #[.slice A l.length c, .int .i64 0]) := Blk.new _ _ _
  have B0 : Hid (Below w.heap.size w (w.alloc (.cells #[.slice A l.length c, .int .i64 0] 344))) := below_new _ _
  have H := Lib.hid h
  clear h
  go_enter Tryz.func175, Tryz.ntmps175
  go_wp2_with (first
    | (refine wpList_built (buildRest _ _ _ _) (by rfl) ?_)
    | (refine wpList_built (buildReader _ _ _ _) (by rfl) ?_))
  go_ret
  exact ⟨_, rfl, ⟨Nat.le_refl _, A, c, K.out, H.out.cap, H.out.big, H.out.sl.below B0.out (Nat.le_refl _)⟩, B0.out, rfl⟩
end Go.Proofs.YtihggkmjalofiaaGreatDoor
