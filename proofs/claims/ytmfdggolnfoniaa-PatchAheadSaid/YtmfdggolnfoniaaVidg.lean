/- Which names of vertices may be. -/
import Derived.Test.YtmfdggolnfoniaaPidg
namespace Go.Proofs.Ytmfdggolnfoniaa
open Go.RowKit

def vidOk (a s n : Int) : Bool := pidOk a s && decide (n < 200)
abbrev vidC (a s n : Int) : Value := .agg #[.int .u8 a, .int .u16 s, .int .u8 n]

set_option maxHeartbeats 400000 in
theorem vgood_any (a s n : Int) (w : World) (ha : 0 ≤ a ∧ a < 256) (hs : 0 ≤ s ∧ s < 65536) (hn : 0 ≤ n ∧ n < 256) : Calls Try.prog 50 #[vidC a s n] w (RetB w (.bool (vidOk a s n))) := by
  have HC := Lib.hid (fun w => pgood_any a s w ha hs)
  have HD : Hid (vidOk a s n = (pidOk a s && decide (n < 200))) := rfl
  obtain ⟨hn0, hn1⟩ := hn
  generalize pidOk a s = r at *
  cases r
  · have F : Hid (vidOk a s n = false) := HD.out
    clear HD
    go_enter Try.func50, Try.ntmps50
    go_wp2_with fail
    refine (HC.out _).mono ?_
    rintro e w1 ⟨rfl, hb⟩
    go_wp2_with fail
    go_ret
    exact ⟨ret_bool F.out.symm, ext_trans (below_box _ _) hb⟩
  · by_cases c : n < 200
    · have F : Hid (vidOk a s n = true) := by rw [Hid, HD.out, decide_eq_true c]; rfl
      have d : decide (n < 200) = true := decide_eq_true c
      clear HD
      go_enter Try.func50, Try.ntmps50
      go_wp2_with fail
      refine (HC.out _).mono ?_
      rintro e w1 ⟨rfl, hb⟩
      have hk := hb.cell (p := ⟨w.heap.size, 2, none⟩) (by simp)
      go_wp2_with fail
      go_ret
      exact ⟨ret_bool F.out.symm, ext_trans (below_box _ _) hb⟩
    · have F : Hid (vidOk a s n = false) := by rw [Hid, HD.out, decide_eq_false c]; rfl
      have d : decide (n < 200) = false := decide_eq_false c
      clear HD
      go_enter Try.func50, Try.ntmps50
      go_wp2_with fail
      refine (HC.out _).mono ?_
      rintro e w1 ⟨rfl, hb⟩
      have hk := hb.cell (p := ⟨w.heap.size, 2, none⟩) (by simp)
      go_wp2_with fail
      go_ret
      exact ⟨ret_bool F.out.symm, ext_trans (below_box _ _) hb⟩

set_option maxHeartbeats 400000 in
theorem rvgood_any (a s n : Int) (w : World) (ha : 0 ≤ a ∧ a < 256) (hs : 0 ≤ s ∧ s < 65536) (hn : 0 ≤ n ∧ n < 256) : Calls Try.prog 68 #[vidC a s n] w (RetB w (.bool (vidOk a s n))) := by
  have HC := Lib.hid (fun w => rpgood_any a s w ha hs)
  have HD : Hid (vidOk a s n = (pidOk a s && decide (n < 200))) := rfl
  obtain ⟨hn0, hn1⟩ := hn
  generalize pidOk a s = r at *
  cases r
  · have F : Hid (vidOk a s n = false) := HD.out
    clear HD
    go_enter Try.func68, Try.ntmps68
    go_wp2_with fail
    refine (HC.out _).mono ?_
    rintro e w1 ⟨rfl, hb⟩
    go_wp2_with fail
    go_ret
    exact ⟨ret_bool F.out.symm, ext_trans (below_box _ _) hb⟩
  · by_cases c : n < 200
    · have F : Hid (vidOk a s n = true) := by rw [Hid, HD.out, decide_eq_true c]; rfl
      have d : decide (n < 200) = true := decide_eq_true c
      clear HD
      go_enter Try.func68, Try.ntmps68
      go_wp2_with fail
      refine (HC.out _).mono ?_
      rintro e w1 ⟨rfl, hb⟩
      have hk := hb.cell (p := ⟨w.heap.size, 2, none⟩) (by simp)
      go_wp2_with fail
      go_ret
      exact ⟨ret_bool F.out.symm, ext_trans (below_box _ _) hb⟩
    · have F : Hid (vidOk a s n = false) := by rw [Hid, HD.out, decide_eq_false c]; rfl
      have d : decide (n < 200) = false := decide_eq_false c
      clear HD
      go_enter Try.func68, Try.ntmps68
      go_wp2_with fail
      refine (HC.out _).mono ?_
      rintro e w1 ⟨rfl, hb⟩
      have hk := hb.cell (p := ⟨w.heap.size, 2, none⟩) (by simp)
      go_wp2_with fail
      go_ret
      exact ⟨ret_bool F.out.symm, ext_trans (below_box _ _) hb⟩

end Go.Proofs.Ytmfdggolnfoniaa