/- What GraphWhole needs beside: comparisons, walked again; what is applied hangs together. -/
import Derived.Test.YtfnhmbflmifhcaaGreatGro
namespace Go.Proofs.YtfnhmbflmifhcaaGreat
open Go.RowKit

set_option maxHeartbeats 1000000 in
theorem sign_anyQ (x y : Int) (w : World) : Calls Tryz.prog 152 #[.int .i64 x, .int .i64 y] w (Ret w (.int .i64 (signV x y))) := by
  by_cases h1 : x < y
  · have F := Lib.hid (signV_lt h1)
    go_enter Tryz.func152, Tryz.ntmps152
    go_wp2
    go_ret
    exact ⟨ret_int F.out.symm, rfl⟩
  · by_cases h2 : y < x
    · have F := Lib.hid (signV_gt h2)
      go_enter Tryz.func152, Tryz.ntmps152
      go_wp2
      go_ret
      exact ⟨ret_int F.out.symm, rfl⟩
    · have F := Lib.hid (signV_eq (show x = y by omega))
      go_enter Tryz.func152, Tryz.ntmps152
      go_wp2
      go_ret
      exact ⟨ret_int F.out.symm, rfl⟩
/-- how two names stand: by author; by number -/
def cmpVQ (a s b t : Int) : Int := signV (packV a s) (packV b t)
theorem cmpV_neQ {a s b t : Int} (hs : 0 ≤ s ∧ s < 65536) (ht : 0 ≤ t ∧ t < 65536) (h : a ≠ b) : cmpVQ a s b t = signV a b := by
  unfold cmpVQ signV packV; split <;> (try split) <;> (try split) <;> (try split) <;> omega
theorem cmpV_eqQ {a s b t : Int} (h : a = b) : cmpVQ a s b t = signV s t := by
  unfold cmpVQ signV packV; split <;> (try split) <;> (try split) <;> (try split) <;> omega
theorem two_boxQ (w : World) (x y : Obj) : Below w.heap.size w ((w.alloc x).alloc y) := ((Below.refl _ _).alloc (Nat.le_refl _) _).alloc (by simp) _
set_option maxRecDepth 100000 in
set_option maxHeartbeats 1000000 in
theorem rcmp_anyQ (a s b t : Int) (ha : 0 ≤ a ∧ a < 256) (hs : 0 ≤ s ∧ s < 65536) (hb : 0 ≤ b ∧ b < 256) (ht : 0 ≤ t ∧ t < 65536) (w : World) :
    Calls Tryz.prog 84 #[.agg #[.int .u8 a, .int .u16 s], .agg #[.int .u8 b, .int .u16 t]] w (RetB w (.int .i64 (cmpVQ a s b t))) := by
  obtain ⟨a0, a1⟩ := ha
  obtain ⟨b0, b1⟩ := hb
  by_cases h : a = b
  · have F := Lib.hid (cmpV_eqQ (s := s) (t := t) h)
    subst h
    obtain ⟨s0, s1⟩ := hs
    obtain ⟨t0, t1⟩ := ht
    go_enter Tryz.func84, Tryz.ntmps84
    go_wp2_with fail
    refine (sign_anyQ _ _ _).mono ?_
    rintro e w1 ⟨rfl, rfl⟩
    go_wp2
    go_ret
    exact ⟨ret_int F.out.symm, two_boxQ _ _ _⟩
  · have F := Lib.hid (cmpV_neQ hs ht h)
    obtain ⟨s0, s1⟩ := hs
    obtain ⟨t0, t1⟩ := ht
    have d : (a != b) = true := by simpa using h
    clear h
    go_enter Tryz.func84, Tryz.ntmps84
    go_wp2_with fail
    refine (sign_anyQ _ _ _).mono ?_
    rintro e w1 ⟨rfl, rfl⟩
    go_wp2
    go_ret
    exact ⟨ret_int F.out.symm, two_boxQ _ _ _⟩
theorem rcmpPQ (x y : PidV) (w : World) : Calls Tryz.prog 84 #[.agg (encP x).toArray, .agg (encP y).toArray] w (RetB w (.int .i64 (signV (keyP x) (keyP y)))) :=
  rcmp_anyQ _ _ _ _ ⟨by omega, by have := x.1.isLt; omega⟩ ⟨by omega, by have := x.2.isLt; omega⟩ ⟨by omega, by have := y.1.isLt; omega⟩ ⟨by omega, by have := y.2.isLt; omega⟩ w
/-- the document's order -/
theorem keyV_neQ {x y : VidV} (h : x.1 ≠ y.1) : signV (keyV x) (keyV y) = signV (keyP x.1) (keyP y.1) := by
  have h0 : keyP x.1 ≠ keyP y.1 := fun e => h (keyP_inj _ _ e)
  have h1 := x.2.isLt
  have h2 := y.2.isLt
  unfold keyV signV
  split <;> (try split) <;> (try split) <;> (try split) <;> omega
theorem keyV_sameQ {x y : VidV} (h : x.1 = y.1) : signV (keyV x) (keyV y) = signV ((x.2.val : Nat) : Int) ((y.2.val : Nat) : Int) := by
  unfold keyV signV
  rw [h]
  split <;> (try split) <;> (try split) <;> (try split) <;> omega
set_option maxRecDepth 100000 in
set_option maxHeartbeats 1000000 in
theorem rcmpVQ (x y : VidV) (w : World) : Calls Tryz.prog 32 #[.agg (encV x).toArray, .agg (encV y).toArray] w (RetB w (.int .i64 (signV (keyV x) (keyV y)))) := by
  have B0 : Hid (Below w.heap.size w ((w.alloc (.cells (encV x).toArray 43)).alloc (.cells (encV y).toArray 43))) := two_boxQ _ _ _
  have K1 : Hid (Blk ((w.alloc (.cells (encV x).toArray 43)).alloc (.cells (encV y).toArray 43)) w.heap.size 43 (encV x).toArray) := (Blk.new _ _ _).alloc _
  have K2 : Hid (Blk ((w.alloc (.cells (encV x).toArray 43)).alloc (.cells (encV y).toArray 43)) (w.heap.size + 1) 43 (encV y).toArray) := Blk.newAt (by simp) _ _
  have R1 := Lib.hid (blk_sub K1.out (encV_pid x))
  have R2 := Lib.hid (blk_sub K2.out (encV_pid y))
  have p2 : ((w.alloc (.cells (encV x).toArray 43)).alloc (.cells (encV y).toArray 43)).cell? ⟨w.heap.size, 2, none⟩ = some (.int .u8 ((x.2.val : Nat) : Int)) := K1.out.cell 2
  have p3 : ((w.alloc (.cells (encV x).toArray 43)).alloc (.cells (encV y).toArray 43)).cell? ⟨w.heap.size + 1, 2, none⟩ = some (.int .u8 ((y.2.val : Nat) : Int)) := K2.out.cell 2
  have HC := Lib.hid (fun w0 => rcmpPQ x.1 y.1 w0)
  have NE := fun u => neqP x.1 y.1 u
  by_cases e : x.1 = y.1
  · rw [keyV_sameQ e]
    have NE' : ∀ u : World, (binOp .neq 33 (.agg (encP x.1).toArray) (.agg (encP y.1).toArray)).run Tryz.prog u = .ok (.bool false) u := fun u => by rw [NE, decide_eq_true e]; rfl
    clear NE e HC
    generalize hx : ((x.2.val : Nat) : Int) = m at *
    generalize hy : ((y.2.val : Nat) : Int) = n at *
    clear hx hy
    rcases Int.lt_trichotomy m n with h | h | h
    · have S := Lib.hid (signV_lt h)
      have d1 : decide (m < n) = true := decide_eq_true h
      go_enter Tryz.func32, Tryz.ntmps32
      go_wp2_with (first | (refine wpList_load_mid rfl 33 _ rfl _ _ (by rfl) _ _ R1.out underPid rfl infoPid ?_) | (refine wpList_load_mid rfl 33 _ rfl _ _ (by rfl) _ _ R2.out underPid rfl infoPid ?_))
      go_ret
      exact ⟨ret_int S.out.symm, B0.out⟩
    · have S := Lib.hid (signV_eq h)
      have d1 : decide (m < n) = false := decide_eq_false (by omega)
      have d2 : decide (n < m) = false := decide_eq_false (by omega)
      clear h
      go_enter Tryz.func32, Tryz.ntmps32
      go_wp2_with (first | (refine wpList_load_mid rfl 33 _ rfl _ _ (by rfl) _ _ R1.out underPid rfl infoPid ?_) | (refine wpList_load_mid rfl 33 _ rfl _ _ (by rfl) _ _ R2.out underPid rfl infoPid ?_))
      go_ret
      exact ⟨ret_int S.out.symm, B0.out⟩
    · have S := Lib.hid (signV_gt h)
      have d1 : decide (m < n) = false := decide_eq_false (by omega)
      have d2 : decide (n < m) = true := decide_eq_true h
      go_enter Tryz.func32, Tryz.ntmps32
      go_wp2_with (first | (refine wpList_load_mid rfl 33 _ rfl _ _ (by rfl) _ _ R1.out underPid rfl infoPid ?_) | (refine wpList_load_mid rfl 33 _ rfl _ _ (by rfl) _ _ R2.out underPid rfl infoPid ?_))
      go_ret
      exact ⟨ret_int S.out.symm, B0.out⟩
  · rw [keyV_neQ e]
    have NE' : ∀ u : World, (binOp .neq 33 (.agg (encP x.1).toArray) (.agg (encP y.1).toArray)).run Tryz.prog u = .ok (.bool true) u := fun u => by rw [NE, decide_eq_false e]; rfl
    clear NE e
    generalize signV (keyP x.1) (keyP y.1) = sg at *
    go_enter Tryz.func32, Tryz.ntmps32
    go_wp2_with (first | (refine wpList_load_mid rfl 33 _ rfl _ _ (by rfl) _ _ R1.out underPid rfl infoPid ?_) | (refine wpList_load_mid rfl 33 _ rfl _ _ (by rfl) _ _ R2.out underPid rfl infoPid ?_))
    refine (HC.out _).mono ?_
    rintro e w1 ⟨rfl, b1⟩
    have B1 := Lib.hid (B0.out.trans (b1.mono B0.out.size))
    clear b1
    go_wp2
    go_ret
    exact ⟨rfl, B1.out⟩
theorem neqV_anyQ (a b c d m n : Int) (w : World) : (binOp .neq 43 (.agg #[.int .u8 a, .int .u16 b, .int .u8 m]) (.agg #[.int .u8 c, .int .u16 d, .int .u8 n])).run Tryz.prog w = .ok (.bool (!(decide (a = c) && decide (b = d) && decide (m = n)))) w := by
  simp [go_sem]
  by_cases h1 : a = c <;> by_cases h2 : b = d <;> by_cases h3 : m = n <;> simp [h1, h2, h3]
theorem neqVQ (x y : VidV) (w : World) : (binOp .neq 43 (.agg (encV x).toArray) (.agg (encV y).toArray)).run Tryz.prog w = .ok (.bool (!decide (x = y))) w := by
  rw [← vidV_eq]; exact neqV_anyQ _ _ _ _ _ _ w
end Go.Proofs.YtfnhmbflmifhcaaGreat
