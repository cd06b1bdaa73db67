/- Texts of general use, one behind another. -/
import Derived.Test.YtihggkmjalofiaaGreatDoorGen
import Derived.Test.YtihggkmjalofiaaGreatDoorShelf

/- What the words' functions and the reference's return, as plain functions on bytes. -/
namespace Go.Proofs.YtihggkmjalofiaaGreatDoor
open Go.RowKit

def letterB (c : Int) : Bool := decide (97 ≤ c ∧ c ≤ 122 ∨ 48 ≤ c ∧ c ≤ 57 ∨ c = 46 ∨ c = 95 ∨ c = 45)
theorem letter_t {c : Int} (h : 97 ≤ c ∧ c ≤ 122 ∨ 48 ≤ c ∧ c ≤ 57 ∨ c = 46 ∨ c = 95 ∨ c = 45) : letterB c = true := by unfold letterB; exact decide_eq_true h
theorem letter_f {c : Int} (h : ¬ (97 ≤ c ∧ c ≤ 122 ∨ 48 ≤ c ∧ c ≤ 57 ∨ c = 46 ∨ c = 95 ∨ c = 45)) : letterB c = false := by unfold letterB; exact decide_eq_false h

set_option maxHeartbeats 400000 in
theorem letter_any (c : Int) (w : World) : Calls Tryz.prog 316 #[.int .i32 c] w (Ret w (.bool (letterB c))) := by
  go_enter Tryz.func316, Tryz.ntmps316
  go_wp2
  all_goals go_ret
  all_goals refine ⟨ret_bool ?_, rfl⟩
  all_goals try simp only [beq_iff_eq, beq_eq_false_iff_ne] at *
  all_goals first | exact (letter_t (by omega)).symm | exact (letter_f (by omega)).symm

/-- the bytes of a text that may be a name -/
def nameB (l : List UInt8) : Bool := l.all (fun c => letterB c.toNat) && decide (1 ≤ l.length ∧ l.length ≤ 16)

set_option maxHeartbeats 400000 in
theorem name_any (s : ByteArray) (w : World) (hs : s.size ≤ maxLen) : Calls Tryz.prog 259 #[.string s] w (RetB w (.bool (nameB s.data.toList))) := by
  unfold maxLen at hs
  go_enter Tryz.func259, Tryz.ntmps259
  go_wp2
  go_loopw [4] (fun _ w' => ∃ k : Nat, k ≤ s.size ∧ w' = w.iter s k ∧ Hid ((s.data.toList.take k).all (fun c => letterB c.toNat) = true)) (fun _ w' => s.size - w'.iterPos w.heap.size)
  case atStart => exact ⟨0, Nat.zero_le _, rfl, rfl⟩
  case round =>
    obtain ⟨k, hk, rfl, H⟩ := hrel
    by_cases hp : k < s.size
    · have E : Hid ((s.data.toList.take (k+1)).all (fun c => letterB c.toNat) = letterB s[k].toNat) := by
        have e1 := all_snoc_take s.data.toList (fun c => letterB c.toNat) k (by simpa using hp)
        rw [H.out] at e1
        exact e1
      have F : Hid (letterB s[k].toNat = false → nameB s.data.toList = false) := by
        intro h
        unfold nameB
        rw [all_false_of s.data.toList _ k (by simpa using hp) h]; rfl
      by_cases ha : (s[k]'hp).toNat < 128
      · have hnx : ∀ ty, (Instr.next (.pointer (some ⟨w.heap.size, 0, none⟩)) true ty).run Tryz.prog (w.iter s k) = _ := fun ty => run_next_ascii w s k ty hp ha
        by_cases hL : letterB s[k].toNat = true
        · go_wp2_with (go_at_call 316; refine (letter_any _ _).mono ?_; rintro e w' ⟨rfl, rfl⟩)
          go_roundw
          case rel => exact ⟨k + 1, by omega, rfl, by rw [Hid, E.out]; exact hL⟩
          case measure => simp; omega
        · have hL' : letterB s[k].toNat = false := by simpa using hL
          clear hL
          go_wp2_with (go_at_call 316; refine (letter_any _ _).mono ?_; rintro e w' ⟨rfl, rfl⟩)
          go_ret
          exact ⟨ret_bool (F.out hL').symm, (Below.refl _ _).alloc (Nat.le_refl _) _⟩
      · have hnx : ∀ ty, (Instr.next (.pointer (some ⟨w.heap.size, 0, none⟩)) true ty).run Tryz.prog (w.iter s k) = _ := fun ty => run_next_any w s k ty hp
        have hh := (decode_high s k hp (by omega)).1
        have hL : letterB s[k].toNat = false := letter_f (by omega)
        have hL' : letterB (Utf8.decode s k).1 = false := letter_f (by omega)
        generalize (Utf8.decode s k).1 = c at *
        generalize (Utf8.decode s k).2 = d at *
        go_wp2_with (go_at_call 316; refine (letter_any _ _).mono ?_; rintro e w' ⟨rfl, rfl⟩)
        go_ret
        exact ⟨ret_bool (F.out hL).symm, (Below.refl _ _).alloc (Nat.le_refl _) _⟩
    · have hnx : ∀ ty, (Instr.next (.pointer (some ⟨w.heap.size, 0, none⟩)) true ty).run Tryz.prog (w.iter s k) = _ := fun ty => run_next_end w s k ty hp
      have hk' : k = s.size := by omega
      subst hk'
      have F : Hid (nameB s.data.toList = decide (1 ≤ s.size ∧ s.size ≤ 16)) := by
        unfold nameB
        have h := H.out
        rw [List.take_of_length_le (by simp)] at h
        rw [h]; rfl
      go_wp2
      all_goals
        go_ret
        refine ⟨ret_bool ?_, (Below.refl _ _).alloc (Nat.le_refl _) _⟩
        first
          | (have h0 : s.size = 0 := size_of_toList_nil ‹s.toList = []›
             rw [F.out, h0]; rfl)
          | (rw [F.out, isEmpty_toList, Bool.eq_iff_iff]; simp only [Bool.and_eq_true, Bool.not_eq_true', decide_eq_true_eq, decide_eq_false_iff_not]; omega)

/-- whether the bytes begin a mark -/
def markB (l : List UInt8) : Bool := match l with
  | a :: b :: c :: d :: e :: f :: g :: _ => (a == 60 || a == 61 || a == 62 || a == 124) && (b == a && c == a && d == a && e == a && f == a && g == a)
  | _ => false
def lineB (l : List UInt8) : Bool := !l.contains 10 && decide (l.length ≤ 60) && !markB l

theorem drop7 (l : List UInt8) (h : 7 ≤ l.length) : ∃ a b c d e f g r, l = a :: b :: c :: d :: e :: f :: g :: r := by
  match l, h with
  | a :: b :: c :: d :: e :: f :: g :: r, _ => exact ⟨a, b, c, d, e, f, g, r, rfl⟩
theorem markB_short (l : List UInt8) (h : l.length < 7) : markB l = false := by
  unfold markB
  split
  · simp at h; omega
  · rfl
theorem bytes7 (s : ByteArray) (h : 7 ≤ s.size) : ∃ a b c d e f g r, s = ⟨⟨a :: b :: c :: d :: e :: f :: g :: r⟩⟩ := by
  obtain ⟨a, b, c, d, e, f, g, r, hl⟩ := drop7 s.data.toList (by simpa using h)
  refine ⟨a, b, c, d, e, f, g, r, ?_⟩
  obtain ⟨⟨l⟩⟩ := s
  simp at hl; rw [hl]

/-- what the walk asks of the first byte -/
theorem signs_ix (a : UInt8) : (Lib.indexByte [60, 61, 62, 124] a < 0) = ¬ (a == 60 || a == 61 || a == 62 || a == 124) = true := by
  by_cases h1 : a = 60
  · subst h1; decide
  by_cases h2 : a = 61
  · subst h2; decide
  by_cases h3 : a = 62
  · subst h3; decide
  by_cases h4 : a = 124
  · subst h4; decide
  have e1 : ((60 : UInt8) == a) = false := by simp; exact fun h => h1 h.symm
  have e2 : ((61 : UInt8) == a) = false := by simp; exact fun h => h2 h.symm
  have e3 : ((62 : UInt8) == a) = false := by simp; exact fun h => h3 h.symm
  have e4 : ((124 : UInt8) == a) = false := by simp; exact fun h => h4 h.symm
  simp [Lib.indexByte, e1, e2, e3, e4, h1, h2, h3, h4]
theorem mark_no (s : ByteArray) (h7 : 7 ≤ s.size) (h : Lib.indexByte [60, 61, 62, 124] (s[0]'(by omega)) < 0) : markB s.data.toList = false := by
  obtain ⟨a, b, c, d, e, f, g, r, rfl⟩ := bytes7 s h7
  have h' : Lib.indexByte [60, 61, 62, 124] a < 0 := h
  rw [signs_ix] at h'
  simp only [markB]
  rw [Bool.eq_false_iff.2 h']; rfl
theorem mark_yes (s : ByteArray) (h7 : 7 ≤ s.size) (h : ¬ Lib.indexByte [60, 61, 62, 124] (s[0]'(by omega)) < 0) : markB s.data.toList = ((s.extract 1 7).toList == (s.extract 0 6).toList) := by
  obtain ⟨a, b, c, d, e, f, g, r, rfl⟩ := bytes7 s h7
  have h' : ¬ Lib.indexByte [60, 61, 62, 124] a < 0 := h
  rw [signs_ix] at h'
  have h'' : (a == 60 || a == 61 || a == 62 || a == 124) = true := Decidable.not_not.1 h'
  simp only [markB]
  rw [h'']
  have e1 : (ByteArray.extract ⟨⟨a :: b :: c :: d :: e :: f :: g :: r⟩⟩ 1 7).toList = [b, c, d, e, f, g] := by
    rw [ByteArray.toList_eq, ByteArray.data_extract]; simp
  have e2 : (ByteArray.extract ⟨⟨a :: b :: c :: d :: e :: f :: g :: r⟩⟩ 0 6).toList = [a, b, c, d, e, f] := by
    rw [ByteArray.toList_eq, ByteArray.data_extract]; simp
  rw [e1, e2, Bool.eq_iff_iff]
  simp only [Bool.true_and, Bool.and_eq_true, beq_iff_eq, List.cons.injEq]
  constructor
  · rintro ⟨⟨⟨⟨⟨rfl, rfl⟩, rfl⟩, rfl⟩, rfl⟩, rfl⟩; simp
  · rintro ⟨rfl, rfl, rfl, rfl, rfl, rfl, _⟩; simp

set_option maxHeartbeats 400000 in
theorem mark_any (s : ByteArray) (w : World) (hs : s.size ≤ maxLen) : Calls Tryz.prog 318 #[.string s] w (RetB w (.bool (markB s.data.toList))) := by
  unfold maxLen at hs
  by_cases h7 : 7 ≤ s.size
  · by_cases hsi : Lib.indexByte [60, 61, 62, 124] (s[0]'(by omega)) < 0
    · have F := Lib.hid (mark_no s h7 hsi)
      go_enter Tryz.func318, Tryz.ntmps318
      go_wp2_with (go_at_call 317; refine (Tryz.strings_IndexByte _ _ _).mono ?_; rintro e w' ⟨rfl, rfl⟩)
      go_ret
      exact ⟨ret_bool F.out.symm, Below.refl _ _⟩
    · have F := Lib.hid (mark_yes s h7 hsi)
      go_enter Tryz.func318, Tryz.ntmps318
      go_wp2_with (go_at_call 317; refine (Tryz.strings_IndexByte _ _ _).mono ?_; rintro e w' ⟨rfl, rfl⟩)
      go_quiet (fail)
      go_wp2
      go_ret
      exact ⟨ret_bool F.out.symm, below_drewN (Below.refl _ _) _⟩
  · go_enter Tryz.func318, Tryz.ntmps318
    go_wp2
    go_ret
    exact ⟨ret_bool (markB_short _ (by simpa using h7)).symm, Below.refl _ _⟩

end Go.Proofs.YtihggkmjalofiaaGreatDoor

/- Lines, and the chapter's example. -/
namespace Go.Proofs.YtihggkmjalofiaaGreatDoor
open Go.RowKit

theorem indexByte_neg (l : List UInt8) (c : UInt8) : decide (Lib.indexByte l c < 0) = !l.contains c := by
  induction l with
  | nil => rfl
  | cons b l ih =>
    have hge := Lib.indexByte_ge l c
    rw [List.contains_cons]
    unfold Lib.indexByte
    by_cases hb : b = c
    · subst hb; simp
    · have h1 : (b == c) = false := by simpa using hb
      have h2 : (c == b) = false := by simp; exact fun h => hb h.symm
      simp only [h1, h2, Bool.false_or, ← ih]
      by_cases hm : Lib.indexByte l c = -1
      · simp [hm]
      · have h3 : (Lib.indexByte l c == -1) = false := by simpa using hm
        simp only [h3]
        rw [Bool.eq_iff_iff]; simp; omega

set_option maxHeartbeats 400000 in
theorem line_any (s : ByteArray) (w : World) (hs : s.size ≤ maxLen) : Calls Tryz.prog 260 #[.string s] w (RetB w (.bool (lineB s.data.toList))) := by
  have HX := Lib.hid (indexByte_neg s.data.toList 10)
  have HD : Hid (lineB s.data.toList = (!s.data.toList.contains 10 && decide (s.size ≤ 60) && !markB s.data.toList)) := rfl
  by_cases h60 : s.size ≤ 60
  · have hd : decide ((s.size : Int) ≤ 60) = true := by simp; omega
    by_cases hc : s.data.toList.contains 10 = true
    · have F : Hid (lineB s.data.toList = false) := by rw [Hid, HD.out, hc]; rfl
      have hx : decide (Lib.indexByte s.data.toList 10 < 0) = false := by rw [HX.out, hc]; rfl
      clear hc HX HD
      go_enter Tryz.func260, Tryz.ntmps260
      go_wp2_with (go_at_call 317; refine (Tryz.strings_IndexByte _ _ _).mono ?_; rintro e w' ⟨rfl, rfl⟩)
      go_ret
      exact ⟨ret_bool F.out.symm, Below.refl _ _⟩
    · have hc' : s.data.toList.contains 10 = false := by simpa using hc
      have F : Hid (lineB s.data.toList = !markB s.data.toList) := by rw [Hid, HD.out, hc', decide_eq_true h60]; rfl
      have hx : decide (Lib.indexByte s.data.toList 10 < 0) = true := by rw [HX.out, hc']; rfl
      clear hc hc' HX HD
      go_enter Tryz.func260, Tryz.ntmps260
      go_wp2_with (first
        | (go_at_call 317; refine (Tryz.strings_IndexByte _ _ _).mono ?_; rintro e w' ⟨rfl, rfl⟩)
        | (go_at_call 318; refine (mark_any _ _ hs).mono ?_; rintro e w1 ⟨rfl, hb⟩))
      go_ret
      exact ⟨ret_bool F.out.symm, hb⟩
  · have hd : decide ((s.size : Int) ≤ 60) = false := by simp; omega
    have F : Hid (lineB s.data.toList = false) := by rw [Hid, HD.out, decide_eq_false h60]; simp
    clear HX HD
    go_enter Tryz.func260, Tryz.ntmps260
    go_wp2
    go_ret
    exact ⟨ret_bool F.out.symm, Below.refl _ _⟩

end Go.Proofs.YtihggkmjalofiaaGreatDoor
