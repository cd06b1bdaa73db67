/- Lines, and the chapter's example. -/
import Derived.Test.YtmfdggolnfoniaaWord
namespace Go.Proofs.Ytmfdggolnfoniaa
open Go.RowKit

theorem contains_snoc (l : List UInt8) (k : Nat) (h : k < l.length) : (l.take (k+1)).contains 10 = ((l.take k).contains 10 || l[k] == 10) := by
  rw [List.take_succ_eq_append_getElem h, Bool.eq_iff_iff]
  simp only [List.contains_iff_mem, List.mem_append, List.mem_singleton, Bool.or_eq_true, beq_iff_eq]
  exact or_congr_right eq_comm
theorem contains_of (l : List UInt8) (k : Nat) (h : k < l.length) (hp : l[k] = 10) : l.contains 10 = true := by
  rw [List.contains_iff_mem]; rw [← hp]; exact List.getElem_mem h
theorem indexByte_neg (l : List UInt8) (c : UInt8) : decide (Lib.indexByte l c < 0) = !l.contains c := by
  induction l with
  | nil => rfl
  | cons b l ih =>
    have hge := Lib.indexByte_ge l c
    rw [List.contains_cons]
    unfold Lib.indexByte
    by_cases hb : b = c
    · subst hb; simp
    · have h1 : (b == c) = false := by simpa using hb
      have h2 : (c == b) = false := by simp; exact fun h => hb h.symm
      simp only [h1, h2, Bool.false_or, ← ih]
      by_cases hm : Lib.indexByte l c = -1
      · simp [hm]
      · have h3 : (Lib.indexByte l c == -1) = false := by simpa using hm
        simp only [h3]
        rw [Bool.eq_iff_iff]; simp; omega

set_option maxHeartbeats 400000 in
theorem line_any (s : ByteArray) (w : World) (hs : s.size ≤ maxLen) : Calls Try.prog 52 #[.string s] w (RetB w (.bool (lineB s.data.toList))) := by
  have HX := Lib.hid (indexByte_neg s.data.toList 10)
  have HD : Hid (lineB s.data.toList = (!s.data.toList.contains 10 && decide (s.size ≤ 60) && !markB s.data.toList)) := rfl
  by_cases h60 : s.size ≤ 60
  · have hd : decide ((s.size : Int) ≤ 60) = true := by simp; omega
    by_cases hc : s.data.toList.contains 10 = true
    · have F : Hid (lineB s.data.toList = false) := by rw [Hid, HD.out, hc]; rfl
      have hx : decide (Lib.indexByte s.data.toList 10 < 0) = false := by rw [HX.out, hc]; rfl
      clear hc HX HD
      go_enter Try.func52, Try.ntmps52
      go_wp2_with (go_at_call 65; refine (Try.strings_IndexByte _ _ _).mono ?_; rintro e w' ⟨rfl, rfl⟩)
      go_ret
      exact ⟨ret_bool F.out.symm, Below.refl _ _⟩
    · have hc' : s.data.toList.contains 10 = false := by simpa using hc
      have F : Hid (lineB s.data.toList = !markB s.data.toList) := by rw [Hid, HD.out, hc', decide_eq_true h60]; rfl
      have hx : decide (Lib.indexByte s.data.toList 10 < 0) = true := by rw [HX.out, hc']; rfl
      clear hc hc' HX HD
      go_enter Try.func52, Try.ntmps52
      go_wp2_with (first
        | (go_at_call 65; refine (Try.strings_IndexByte _ _ _).mono ?_; rintro e w' ⟨rfl, rfl⟩)
        | (go_at_call 66; refine (mark_any _ _ hs).mono ?_; rintro e w1 ⟨rfl, hb⟩))
      go_ret
      exact ⟨ret_bool F.out.symm, hb⟩
  · have hd : decide ((s.size : Int) ≤ 60) = false := by simp; omega
    have F : Hid (lineB s.data.toList = false) := by rw [Hid, HD.out, decide_eq_false h60]; simp
    clear HX HD
    go_enter Try.func52, Try.ntmps52
    go_wp2
    go_ret
    exact ⟨ret_bool F.out.symm, Below.refl _ _⟩

set_option maxHeartbeats 400000 in
theorem rline_any (s : ByteArray) (w : World) (hs : s.size ≤ maxLen) : Calls Try.prog 70 #[.string s] w (RetB w (.bool (lineB s.data.toList))) := by
  have HS := Lib.hid hs
  have HD : Hid (lineB s.data.toList = (!s.data.toList.contains 10 && decide (s.size ≤ 60) && !markB s.data.toList)) := rfl
  unfold maxLen at hs
  go_enter Try.func70, Try.ntmps70
  go_wp2
  go_loop [3] (fun i => ∃ k : Nat, k ≤ s.size ∧ i = .int .i64 k ∧ Hid ((s.data.toList.take k).contains 10 = false)) (fun i => s.size - (intOf i).toNat)
  case atStart => exact ⟨0, Nat.zero_le _, rfl, rfl⟩
  case round =>
    obtain ⟨k, hk, rfl, H⟩ := hrel
    by_cases hlt : k < s.size
    · have E : Hid ((s.data.toList.take (k+1)).contains 10 = (s[k] == 10)) := by
        have e1 := contains_snoc s.data.toList k (by simpa using hlt)
        rw [H.out] at e1
        exact e1
      by_cases h10 : s[k] = 10
      · have F : Hid (lineB s.data.toList = false) := by
          rw [Hid, HD.out, contains_of s.data.toList k (by simpa using hlt) h10]; rfl
        have hb : ((((s[k]).toNat : Nat) : Int) == 10) = true := by rw [h10]; rfl
        clear h10
        go_wp2
        go_ret
        exact ⟨ret_bool F.out.symm, Below.refl _ _⟩
      · have hb : ((((s[k]).toNat : Nat) : Int) == 10) = false := by
          simp only [beq_eq_false_iff_ne, ne_eq]; intro h; exact h10 (UInt8.toNat.inj (by rw [show (10 : UInt8).toNat = 10 from rfl]; omega))
        have h10' : (s[k] == 10) = false := by simpa using h10
        have E' : Hid ((s.data.toList.take (k+1)).contains 10 = false) := by rw [Hid, E.out]; exact h10'
        clear h10 h10'
        go_wp2
        go_round
        case rel => exact ⟨k + 1, by omega, by go_num, E'⟩
        case measure => simp [intOf]; omega
    · have hk' : k = s.size := by omega
      subst hk'
      have hc : Hid (s.data.toList.contains 10 = false) := by have h := H.out; rw [List.take_of_length_le (by simp)] at h; exact h
      by_cases h60 : s.size ≤ 60
      · have F : Hid (lineB s.data.toList = !markB s.data.toList) := by rw [Hid, HD.out, hc.out, decide_eq_true h60]; rfl
        have hd : decide ((s.size : Int) ≤ 60) = true := by simp; omega
        go_wp2_with (go_at_call 81; refine (rmark_any _ _ HS.out).mono ?_; rintro e w1 ⟨rfl, hb⟩)
        go_ret
        exact ⟨ret_bool F.out.symm, hb⟩
      · have F : Hid (lineB s.data.toList = false) := by rw [Hid, HD.out, decide_eq_false h60]; simp
        have hd : decide ((s.size : Int) ≤ 60) = false := by simp; omega
        go_wp2
        go_ret
        exact ⟨ret_bool F.out.symm, Below.refl _ _⟩

end Go.Proofs.Ytmfdggolnfoniaa
