/- Which names of patches and of vertices may be. -/
import Derived.Test.YtmfdggolnfoniaaGen
namespace Go.Proofs.Ytmfdggolnfoniaa
open Go.RowKit

def pidOk (a s : Int) : Bool := decide (1 ≤ a) && decide (a ≤ 64) && decide (1 ≤ s) && decide (s ≤ 60000)
abbrev pidC (a s : Int) : Value := .agg #[.int .u8 a, .int .u16 s]
theorem below_box (w : World) (o : Obj) : Below w.heap.size w (w.alloc o) := (Below.refl _ _).alloc (Nat.le_refl _) _
theorem pidOk1 {a s : Int} (h : ¬ 1 ≤ a) : pidOk a s = false := by simp [pidOk, h]
theorem pidOk2 {a s : Int} (h : ¬ a ≤ 64) : pidOk a s = false := by simp [pidOk, h]
theorem pidOk3 {a s : Int} (h : ¬ 1 ≤ s) : pidOk a s = false := by simp [pidOk, h]
theorem pidOk4 {a s : Int} (h : ¬ s ≤ 60000) : pidOk a s = false := by simp [pidOk, h]
theorem pidOk5 {a s : Int} (h1 : 1 ≤ a) (h2 : a ≤ 64) (h3 : 1 ≤ s) (h4 : s ≤ 60000) : pidOk a s = true := by simp [pidOk, h1, h2, h3, h4]

set_option maxHeartbeats 400000 in
theorem pgood_any (a s : Int) (w : World) (ha : 0 ≤ a ∧ a < 256) (hs : 0 ≤ s ∧ s < 65536) : Calls Try.prog 31 #[pidC a s] w (RetB w (.bool (pidOk a s))) := by
  obtain ⟨ha0, ha1⟩ := ha
  obtain ⟨hs0, hs1⟩ := hs
  by_cases c0 : 1 ≤ a
  · have d0 : decide (1 ≤ a) = true := decide_eq_true c0
    by_cases c1 : a ≤ 64
    · have d1 : decide (a ≤ 64) = true := decide_eq_true c1
      by_cases c2 : 1 ≤ s
      · have d2 : decide (1 ≤ s) = true := decide_eq_true c2
        by_cases c3 : s ≤ 60000
        · have d3 : decide (s ≤ 60000) = true := decide_eq_true c3
          have F := Lib.hid (pidOk5 c0 c1 c2 c3)
          go_enter Try.func31, Try.ntmps31
          go_wp2
          go_ret
          exact ⟨ret_bool F.out.symm, below_box _ _⟩
        · have d3 : decide (s ≤ 60000) = false := decide_eq_false c3
          have F := Lib.hid (pidOk4 (a := a) (s := s) c3)
          go_enter Try.func31, Try.ntmps31
          go_wp2
          go_ret
          exact ⟨ret_bool F.out.symm, below_box _ _⟩
      · have d2 : decide (1 ≤ s) = false := decide_eq_false c2
        have F := Lib.hid (pidOk3 (a := a) (s := s) c2)
        go_enter Try.func31, Try.ntmps31
        go_wp2
        go_ret
        exact ⟨ret_bool F.out.symm, below_box _ _⟩
    · have d1 : decide (a ≤ 64) = false := decide_eq_false c1
      have F := Lib.hid (pidOk2 (a := a) (s := s) c1)
      go_enter Try.func31, Try.ntmps31
      go_wp2
      go_ret
      exact ⟨ret_bool F.out.symm, below_box _ _⟩
  · have d0 : decide (1 ≤ a) = false := decide_eq_false c0
    have F := Lib.hid (pidOk1 (a := a) (s := s) c0)
    go_enter Try.func31, Try.ntmps31
    go_wp2
    go_ret
    exact ⟨ret_bool F.out.symm, below_box _ _⟩

set_option maxHeartbeats 400000 in
theorem rpgood_any (a s : Int) (w : World) (ha : 0 ≤ a ∧ a < 256) (hs : 0 ≤ s ∧ s < 65536) : Calls Try.prog 37 #[pidC a s] w (RetB w (.bool (pidOk a s))) := by
  obtain ⟨ha0, ha1⟩ := ha
  obtain ⟨hs0, hs1⟩ := hs
  by_cases c0 : 1 ≤ a
  · have d0 : decide (1 ≤ a) = true := decide_eq_true c0
    by_cases c1 : a ≤ 64
    · have d1 : decide (a ≤ 64) = true := decide_eq_true c1
      by_cases c2 : 1 ≤ s
      · have d2 : decide (1 ≤ s) = true := decide_eq_true c2
        by_cases c3 : s ≤ 60000
        · have d3 : decide (s ≤ 60000) = true := decide_eq_true c3
          have F := Lib.hid (pidOk5 c0 c1 c2 c3)
          go_enter Try.func37, Try.ntmps37
          go_wp2
          go_ret
          exact ⟨ret_bool F.out.symm, below_box _ _⟩
        · have d3 : decide (s ≤ 60000) = false := decide_eq_false c3
          have F := Lib.hid (pidOk4 (a := a) (s := s) c3)
          go_enter Try.func37, Try.ntmps37
          go_wp2
          go_ret
          exact ⟨ret_bool F.out.symm, below_box _ _⟩
      · have d2 : decide (1 ≤ s) = false := decide_eq_false c2
        have F := Lib.hid (pidOk3 (a := a) (s := s) c2)
        go_enter Try.func37, Try.ntmps37
        go_wp2
        go_ret
        exact ⟨ret_bool F.out.symm, below_box _ _⟩
    · have d1 : decide (a ≤ 64) = false := decide_eq_false c1
      have F := Lib.hid (pidOk2 (a := a) (s := s) c1)
      go_enter Try.func37, Try.ntmps37
      go_wp2
      go_ret
      exact ⟨ret_bool F.out.symm, below_box _ _⟩
  · have d0 : decide (1 ≤ a) = false := decide_eq_false c0
    have F := Lib.hid (pidOk1 (a := a) (s := s) c0)
    go_enter Try.func37, Try.ntmps37
    go_wp2
    go_ret
    exact ⟨ret_bool F.out.symm, below_box _ _⟩
end Go.Proofs.Ytmfdggolnfoniaa
