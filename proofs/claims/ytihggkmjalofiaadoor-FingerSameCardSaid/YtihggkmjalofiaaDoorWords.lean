/- Texts of general use, one behind another. -/
import Derived.Test.YtihggkmjalofiaaDoorGen
import Derived.Test.YtihggkmjalofiaaDoorShelf

/- What the words' functions and the reference's return, as plain functions on bytes. -/
namespace Go.Proofs.YtihggkmjalofiaaDoor
open Go.RowKit

def letterB (c : Int) : Bool := decide (97 ≤ c ∧ c ≤ 122 ∨ 48 ≤ c ∧ c ≤ 57 ∨ c = 46 ∨ c = 95 ∨ c = 45)
theorem letter_t {c : Int} (h : 97 ≤ c ∧ c ≤ 122 ∨ 48 ≤ c ∧ c ≤ 57 ∨ c = 46 ∨ c = 95 ∨ c = 45) : letterB c = true := by unfold letterB; exact decide_eq_true h
theorem letter_f {c : Int} (h : ¬ (97 ≤ c ∧ c ≤ 122 ∨ 48 ≤ c ∧ c ≤ 57 ∨ c = 46 ∨ c = 95 ∨ c = 45)) : letterB c = false := by unfold letterB; exact decide_eq_false h

set_option maxHeartbeats 400000 in
theorem letter_any (c : Int) (w : World) : Calls Tryd.prog 62 #[.int .i32 c] w (Ret w (.bool (letterB c))) := by
  go_enter Tryd.func62, Tryd.ntmps62
  go_wp2
  all_goals go_ret
  all_goals refine ⟨ret_bool ?_, rfl⟩
  all_goals try simp only [beq_iff_eq, beq_eq_false_iff_ne] at *
  all_goals first | exact (letter_t (by omega)).symm | exact (letter_f (by omega)).symm

/-- the bytes of a text that may be a name -/
def nameB (l : List UInt8) : Bool := l.all (fun c => letterB c.toNat) && decide (1 ≤ l.length ∧ l.length ≤ 16)

set_option maxHeartbeats 400000 in
theorem rname_any (s : ByteArray) (w : World) (hs : s.size ≤ maxLen) : Calls Tryd.prog 57 #[.string s] w (Ret w (.bool (nameB s.data.toList))) := by
  unfold maxLen at hs
  go_enter Tryd.func57, Tryd.ntmps57
  go_wp2
  go_loop [3,4] (fun i _ => ∃ k : Nat, k ≤ s.size ∧ i = .int .i64 k ∧ Hid ((s.data.toList.take k).all (fun c => letterB c.toNat) = true)) (fun i _ => s.size - (intOf i).toNat)
  case atStart => exact ⟨0, Nat.zero_le _, rfl, rfl⟩
  case round =>
    obtain ⟨k, hk, rfl, H⟩ := hrel
    by_cases hlt : k < s.size
    · have E : Hid ((s.data.toList.take (k+1)).all (fun c => letterB c.toNat) = letterB s[k].toNat) := by
        have e1 := all_snoc_take s.data.toList (fun c => letterB c.toNat) k (by simpa using hlt)
        rw [H.out] at e1
        exact e1
      have F : Hid (letterB s[k].toNat = false → nameB s.data.toList = false) := by
        intro h
        unfold nameB
        rw [all_false_of s.data.toList _ k (by simpa using hlt) h]; rfl
      go_wp2
      all_goals first
        | (go_round
           case rel =>
            refine ⟨k + 1, by omega, by go_num, ?_⟩
            rw [Hid, E.out]
            clear E F H
            exact letter_t (by first | omega | (simp at *; omega))
           case measure => simp [intOf]; omega)
        | (go_ret
           refine ⟨ret_bool ?_, rfl⟩
           rw [F.out (by clear E F H; exact letter_f (by first | omega | (simp at *; omega)))])
    · have hk' : k = s.size := by omega
      subst hk'
      have F : Hid (nameB s.data.toList = decide (1 ≤ s.size ∧ s.size ≤ 16)) := by
        unfold nameB
        have h := H.out
        rw [List.take_of_length_le (by simp)] at h
        rw [h]; rfl
      go_wp2
      all_goals
        go_ret
        refine ⟨ret_bool ?_, rfl⟩
        rw [F.out]
        first | (simp; done) | (rw [Bool.eq_iff_iff]; simp; omega) | (simp; omega)

set_option maxHeartbeats 400000 in
theorem name_any (s : ByteArray) (w : World) (hs : s.size ≤ maxLen) : Calls Tryd.prog 50 #[.string s] w (RetB w (.bool (nameB s.data.toList))) := by
  unfold maxLen at hs
  go_enter Tryd.func50, Tryd.ntmps50
  go_wp2
  go_loopw [4] (fun _ w' => ∃ k : Nat, k ≤ s.size ∧ w' = w.iter s k ∧ Hid ((s.data.toList.take k).all (fun c => letterB c.toNat) = true)) (fun _ w' => s.size - w'.iterPos w.heap.size)
  case atStart => exact ⟨0, Nat.zero_le _, rfl, rfl⟩
  case round =>
    obtain ⟨k, hk, rfl, H⟩ := hrel
    by_cases hp : k < s.size
    · have E : Hid ((s.data.toList.take (k+1)).all (fun c => letterB c.toNat) = letterB s[k].toNat) := by
        have e1 := all_snoc_take s.data.toList (fun c => letterB c.toNat) k (by simpa using hp)
        rw [H.out] at e1
        exact e1
      have F : Hid (letterB s[k].toNat = false → nameB s.data.toList = false) := by
        intro h
        unfold nameB
        rw [all_false_of s.data.toList _ k (by simpa using hp) h]; rfl
      by_cases ha : (s[k]'hp).toNat < 128
      · have hnx : ∀ ty, (Instr.next (.pointer (some ⟨w.heap.size, 0, none⟩)) true ty).run Tryd.prog (w.iter s k) = _ := fun ty => run_next_ascii w s k ty hp ha
        by_cases hL : letterB s[k].toNat = true
        · go_wp2_with (go_at_call 62; refine (letter_any _ _).mono ?_; rintro e w' ⟨rfl, rfl⟩)
          go_roundw
          case rel => exact ⟨k + 1, by omega, rfl, by rw [Hid, E.out]; exact hL⟩
          case measure => simp; omega
        · have hL' : letterB s[k].toNat = false := by simpa using hL
          clear hL
          go_wp2_with (go_at_call 62; refine (letter_any _ _).mono ?_; rintro e w' ⟨rfl, rfl⟩)
          go_ret
          exact ⟨ret_bool (F.out hL').symm, (Below.refl _ _).alloc (Nat.le_refl _) _⟩
      · have hnx : ∀ ty, (Instr.next (.pointer (some ⟨w.heap.size, 0, none⟩)) true ty).run Tryd.prog (w.iter s k) = _ := fun ty => run_next_any w s k ty hp
        have hh := (decode_high s k hp (by omega)).1
        have hL : letterB s[k].toNat = false := letter_f (by omega)
        have hL' : letterB (Utf8.decode s k).1 = false := letter_f (by omega)
        generalize (Utf8.decode s k).1 = c at *
        generalize (Utf8.decode s k).2 = d at *
        go_wp2_with (go_at_call 62; refine (letter_any _ _).mono ?_; rintro e w' ⟨rfl, rfl⟩)
        go_ret
        exact ⟨ret_bool (F.out hL).symm, (Below.refl _ _).alloc (Nat.le_refl _) _⟩
    · have hnx : ∀ ty, (Instr.next (.pointer (some ⟨w.heap.size, 0, none⟩)) true ty).run Tryd.prog (w.iter s k) = _ := fun ty => run_next_end w s k ty hp
      have hk' : k = s.size := by omega
      subst hk'
      have F : Hid (nameB s.data.toList = decide (1 ≤ s.size ∧ s.size ≤ 16)) := by
        unfold nameB
        have h := H.out
        rw [List.take_of_length_le (by simp)] at h
        rw [h]; rfl
      go_wp2
      all_goals
        go_ret
        refine ⟨ret_bool ?_, (Below.refl _ _).alloc (Nat.le_refl _) _⟩
        first
          | (have h0 : s.size = 0 := size_of_toList_nil ‹s.toList = []›
             rw [F.out, h0]; rfl)
          | (rw [F.out, isEmpty_toList, Bool.eq_iff_iff]; simp only [Bool.and_eq_true, Bool.not_eq_true', decide_eq_true_eq, decide_eq_false_iff_not]; omega)

/-- whether the bytes begin a mark -/
def markB (l : List UInt8) : Bool := match l with
  | a :: b :: c :: d :: e :: f :: g :: _ => (a == 60 || a == 61 || a == 62 || a == 124) && (b == a && c == a && d == a && e == a && f == a && g == a)
  | _ => false
def lineB (l : List UInt8) : Bool := !l.contains 10 && decide (l.length ≤ 60) && !markB l

theorem drop7 (l : List UInt8) (h : 7 ≤ l.length) : ∃ a b c d e f g r, l = a :: b :: c :: d :: e :: f :: g :: r := by
  match l, h with
  | a :: b :: c :: d :: e :: f :: g :: r, _ => exact ⟨a, b, c, d, e, f, g, r, rfl⟩
theorem markB_short (l : List UInt8) (h : l.length < 7) : markB l = false := by
  unfold markB
  split
  · simp at h; omega
  · rfl
theorem bytes7 (s : ByteArray) (h : 7 ≤ s.size) : ∃ a b c d e f g r, s = ⟨⟨a :: b :: c :: d :: e :: f :: g :: r⟩⟩ := by
  obtain ⟨a, b, c, d, e, f, g, r, hl⟩ := drop7 s.data.toList (by simpa using h)
  refine ⟨a, b, c, d, e, f, g, r, ?_⟩
  obtain ⟨⟨l⟩⟩ := s
  simp at hl; rw [hl]

/-- what the walk asks of the first byte -/
theorem signs_ix (a : UInt8) : (Lib.indexByte [60, 61, 62, 124] a < 0) = ¬ (a == 60 || a == 61 || a == 62 || a == 124) = true := by
  by_cases h1 : a = 60
  · subst h1; decide
  by_cases h2 : a = 61
  · subst h2; decide
  by_cases h3 : a = 62
  · subst h3; decide
  by_cases h4 : a = 124
  · subst h4; decide
  have e1 : ((60 : UInt8) == a) = false := by simp; exact fun h => h1 h.symm
  have e2 : ((61 : UInt8) == a) = false := by simp; exact fun h => h2 h.symm
  have e3 : ((62 : UInt8) == a) = false := by simp; exact fun h => h3 h.symm
  have e4 : ((124 : UInt8) == a) = false := by simp; exact fun h => h4 h.symm
  simp [Lib.indexByte, e1, e2, e3, e4, h1, h2, h3, h4]
theorem mark_no (s : ByteArray) (h7 : 7 ≤ s.size) (h : Lib.indexByte [60, 61, 62, 124] (s[0]'(by omega)) < 0) : markB s.data.toList = false := by
  obtain ⟨a, b, c, d, e, f, g, r, rfl⟩ := bytes7 s h7
  have h' : Lib.indexByte [60, 61, 62, 124] a < 0 := h
  rw [signs_ix] at h'
  simp only [markB]
  rw [Bool.eq_false_iff.2 h']; rfl
theorem mark_yes (s : ByteArray) (h7 : 7 ≤ s.size) (h : ¬ Lib.indexByte [60, 61, 62, 124] (s[0]'(by omega)) < 0) : markB s.data.toList = ((s.extract 1 7).toList == (s.extract 0 6).toList) := by
  obtain ⟨a, b, c, d, e, f, g, r, rfl⟩ := bytes7 s h7
  have h' : ¬ Lib.indexByte [60, 61, 62, 124] a < 0 := h
  rw [signs_ix] at h'
  have h'' : (a == 60 || a == 61 || a == 62 || a == 124) = true := Decidable.not_not.1 h'
  simp only [markB]
  rw [h'']
  have e1 : (ByteArray.extract ⟨⟨a :: b :: c :: d :: e :: f :: g :: r⟩⟩ 1 7).toList = [b, c, d, e, f, g] := by
    rw [ByteArray.toList_eq, ByteArray.data_extract]; simp
  have e2 : (ByteArray.extract ⟨⟨a :: b :: c :: d :: e :: f :: g :: r⟩⟩ 0 6).toList = [a, b, c, d, e, f] := by
    rw [ByteArray.toList_eq, ByteArray.data_extract]; simp
  rw [e1, e2, Bool.eq_iff_iff]
  simp only [Bool.true_and, Bool.and_eq_true, beq_iff_eq, List.cons.injEq]
  constructor
  · rintro ⟨⟨⟨⟨⟨rfl, rfl⟩, rfl⟩, rfl⟩, rfl⟩, rfl⟩; simp
  · rintro ⟨rfl, rfl, rfl, rfl, rfl, rfl, _⟩; simp

set_option maxHeartbeats 400000 in
theorem mark_any (s : ByteArray) (w : World) (hs : s.size ≤ maxLen) : Calls Tryd.prog 64 #[.string s] w (RetB w (.bool (markB s.data.toList))) := by
  unfold maxLen at hs
  by_cases h7 : 7 ≤ s.size
  · by_cases hsi : Lib.indexByte [60, 61, 62, 124] (s[0]'(by omega)) < 0
    · have F := Lib.hid (mark_no s h7 hsi)
      go_enter Tryd.func64, Tryd.ntmps64
      go_wp2_with (go_at_call 63; refine (Tryd.strings_IndexByte _ _ _).mono ?_; rintro e w' ⟨rfl, rfl⟩)
      go_ret
      exact ⟨ret_bool F.out.symm, Below.refl _ _⟩
    · have F := Lib.hid (mark_yes s h7 hsi)
      go_enter Tryd.func64, Tryd.ntmps64
      go_wp2_with (go_at_call 63; refine (Tryd.strings_IndexByte _ _ _).mono ?_; rintro e w' ⟨rfl, rfl⟩)
      go_quiet (fail)
      go_wp2
      go_ret
      exact ⟨ret_bool F.out.symm, below_drewN (Below.refl _ _) _⟩
  · go_enter Tryd.func64, Tryd.ntmps64
    go_wp2
    go_ret
    exact ⟨ret_bool (markB_short _ (by simpa using h7)).symm, Below.refl _ _⟩

theorem take7 (l : List UInt8) (h : 7 ≤ l.length) : markB l = true ↔ ((l[0] == 60 || l[0] == 61 || l[0] == 62 || l[0] == 124) = true ∧ ∀ k, (hk : k < 7) → 1 ≤ k → l[k] = l[0]) := by
  obtain ⟨a, b, c, d, e, f, g, r, rfl⟩ := drop7 l h
  simp only [markB, Bool.and_eq_true, beq_iff_eq]
  refine and_congr_right fun _ => ⟨fun h k hk h1 => ?_, fun h => ?_⟩
  · obtain ⟨⟨⟨⟨⟨rfl, rfl⟩, rfl⟩, rfl⟩, rfl⟩, rfl⟩ := h
    match k, hk, h1 with
    | 1, _, _ | 2, _, _ | 3, _, _ | 4, _, _ | 5, _, _ | 6, _, _ => rfl
  · exact ⟨⟨⟨⟨⟨h 1 (by omega) (by omega), h 2 (by omega) (by omega)⟩, h 3 (by omega) (by omega)⟩, h 4 (by omega) (by omega)⟩, h 5 (by omega) (by omega)⟩, h 6 (by omega) (by omega)⟩
theorem signs_cases (x : UInt8) :
    ((x == 60 || x == 61 || x == 62 || x == 124) = true ∧ (((x.toNat : Nat) : Int) != 60) = false) ∨
    ((x == 60 || x == 61 || x == 62 || x == 124) = true ∧ (((x.toNat : Nat) : Int) != 60) = true ∧ (((x.toNat : Nat) : Int) != 61) = false) ∨
    ((x == 60 || x == 61 || x == 62 || x == 124) = true ∧ (((x.toNat : Nat) : Int) != 60) = true ∧ (((x.toNat : Nat) : Int) != 61) = true ∧ (((x.toNat : Nat) : Int) != 62) = false) ∨
    ((x == 60 || x == 61 || x == 62 || x == 124) = true ∧ (((x.toNat : Nat) : Int) != 60) = true ∧ (((x.toNat : Nat) : Int) != 61) = true ∧ (((x.toNat : Nat) : Int) != 62) = true ∧ (((x.toNat : Nat) : Int) != 124) = false) ∨
    ((x == 60 || x == 61 || x == 62 || x == 124) = false ∧ (((x.toNat : Nat) : Int) != 60) = true ∧ (((x.toNat : Nat) : Int) != 61) = true ∧ (((x.toNat : Nat) : Int) != 62) = true ∧ (((x.toNat : Nat) : Int) != 124) = true) := by
  have e : ∀ n : Nat, n < 256 → ((((x.toNat : Nat) : Int) != n) = !(x == UInt8.ofNat n)) := fun n hn => by
    have hx := x.toNat_lt
    rw [Bool.eq_iff_iff]; simp only [bne_iff_ne, ne_eq, Bool.not_eq_true', beq_eq_false_iff_ne]
    refine not_congr ⟨?_, ?_⟩
    · intro h; apply UInt8.toNat.inj; rw [UInt8.toNat_ofNat']; omega
    · rintro rfl; rw [UInt8.toNat_ofNat']; omega
  have e1 := e 60 (by omega); have e2 := e 61 (by omega); have e3 := e 62 (by omega); have e4 := e 124 (by omega)
  have f1 : UInt8.ofNat 60 = 60 := rfl
  have f2 : UInt8.ofNat 61 = 61 := rfl
  have f3 : UInt8.ofNat 62 = 62 := rfl
  have f4 : UInt8.ofNat 124 = 124 := rfl
  rw [f1] at e1; rw [f2] at e2; rw [f3] at e3; rw [f4] at e4
  simp only [show ((60 : Nat) : Int) = 60 from rfl, show ((61 : Nat) : Int) = 61 from rfl, show ((62 : Nat) : Int) = 62 from rfl, show ((124 : Nat) : Int) = 124 from rfl] at e1 e2 e3 e4
  rw [e1, e2, e3, e4]
  cases x == 60 <;> cases x == 61 <;> cases x == 62 <;> cases x == 124 <;> simp

set_option maxHeartbeats 1000000 in
theorem rmark_any (s : ByteArray) (w : World) (hs : s.size ≤ maxLen) : Calls Tryd.prog 67 #[.string s] w (RetB w (.bool (markB s.data.toList))) := by
  unfold maxLen at hs
  by_cases h7 : 7 ≤ s.size
  · have HT := Lib.hid (take7 s.data.toList (by simpa using h7))
    have hd7 : decide ((s.size : Int) < 7) = false := by simp; omega
    rcases signs_cases (s[0]'(by omega)) with ⟨hsg, h0⟩ | ⟨hsg, h0, h1⟩ | ⟨hsg, h0, h1, h2⟩ | ⟨hsg, h0, h1, h2, h3⟩ | ⟨hsg, h0, h1, h2, h3⟩
    rotate_left 4
    · have F : Hid (markB s.data.toList = false) := by
        rw [Hid, Bool.eq_false_iff]; intro h
        have := (HT.out.1 h).1
        rw [show s.data.toList[0]'(by simp; omega) = s[0]'(by omega) from rfl, hsg] at this
        cases this
      clear hsg HT
      go_enter Tryd.func67, Tryd.ntmps67
      go_wp2
      go_ret
      exact ⟨ret_bool F.out.symm, Below.refl _ _⟩
    all_goals
      have HT' : Hid (∀ k, (hk : k < 7) → 1 ≤ k → s[k]'(by omega) ≠ s[0]'(by omega) → markB s.data.toList = false) := by
        intro k hk h1 hne
        rw [Bool.eq_false_iff]; intro h
        exact hne ((HT.out.1 h).2 k hk h1)
      have HT2 : Hid ((∀ k, (hk : k < 7) → 1 ≤ k → s[k]'(by omega) = s[0]'(by omega)) → markB s.data.toList = true) := fun h => HT.out.2 ⟨hsg, h⟩
      clear hsg HT
      go_enter Tryd.func67, Tryd.ntmps67
      go_wp2
      go_loopw [3] (fun i w' => ∃ k n : Nat, k ≤ 7 ∧ 1 ≤ k ∧ i = .int .i64 k ∧ w' = w.drewN n ∧ Hid (∀ j, (hj7 : j < 7) → j < k → 1 ≤ j → s[j]'(by omega) = s[0]'(by omega))) (fun i _ => 7 - (intOf i).toNat)
      case atStart => exact ⟨1, 0, by omega, by omega, rfl, rfl, fun j hj _ h1 => by omega⟩
      case round =>
        obtain ⟨k, n, hk, hk1, rfl, rfl, HH⟩ := hrel
        by_cases hlt : k < 7
        · have hks : k < s.size := by omega
          by_cases heq : s[k] = s[0]
          · have HE := Lib.hid heq
            have hne : ((((s[k]).toNat : Nat) : Int) != (((s[0]).toNat : Nat) : Int)) = false := by rw [heq]; simp
            clear heq
            go_wp2_with fail
            go_quiet (fail)
            go_wp2
            go_roundw
            case rel =>
              refine ⟨k + 1, _, by omega, by omega, by go_num, rfl, fun j hj7 hj h1 => ?_⟩
              by_cases hjk : j = k
              · subst hjk; exact HE.out
              · exact HH.out j hj7 (by omega) h1
            case measure => simp [intOf]; omega
          · have F := Lib.hid (HT'.out k hlt hk1 heq)
            have hne : ((((s[k]).toNat : Nat) : Int) != (((s[0]).toNat : Nat) : Int)) = true := by
              simp only [bne_iff_ne, ne_eq]; intro h; exact heq (UInt8.toNat.inj (by omega))
            clear heq
            go_wp2_with fail
            go_quiet (fail)
            go_wp2
            go_ret
            exact ⟨ret_bool F.out.symm, below_drewN (below_drewN (Below.refl _ _) _) _⟩
        · have F := Lib.hid (HT2.out fun j hj h1 => HH.out j hj (by omega) h1)
          go_wp2
          go_ret
          exact ⟨ret_bool F.out.symm, below_drewN (Below.refl _ _) _⟩
  · go_enter Tryd.func67, Tryd.ntmps67
    go_wp2
    go_ret
    exact ⟨ret_bool (markB_short _ (by simpa using h7)).symm, Below.refl _ _⟩
end Go.Proofs.YtihggkmjalofiaaDoor

/- Lines, and the chapter's example. -/
namespace Go.Proofs.YtihggkmjalofiaaDoor
open Go.RowKit

theorem contains_snoc (l : List UInt8) (k : Nat) (h : k < l.length) : (l.take (k+1)).contains 10 = ((l.take k).contains 10 || l[k] == 10) := by
  rw [List.take_succ_eq_append_getElem h, Bool.eq_iff_iff]
  simp only [List.contains_iff_mem, List.mem_append, List.mem_singleton, Bool.or_eq_true, beq_iff_eq]
  exact or_congr_right eq_comm
theorem contains_of (l : List UInt8) (k : Nat) (h : k < l.length) (hp : l[k] = 10) : l.contains 10 = true := by
  rw [List.contains_iff_mem]; rw [← hp]; exact List.getElem_mem h
theorem indexByte_neg (l : List UInt8) (c : UInt8) : decide (Lib.indexByte l c < 0) = !l.contains c := by
  induction l with
  | nil => rfl
  | cons b l ih =>
    have hge := Lib.indexByte_ge l c
    rw [List.contains_cons]
    unfold Lib.indexByte
    by_cases hb : b = c
    · subst hb; simp
    · have h1 : (b == c) = false := by simpa using hb
      have h2 : (c == b) = false := by simp; exact fun h => hb h.symm
      simp only [h1, h2, Bool.false_or, ← ih]
      by_cases hm : Lib.indexByte l c = -1
      · simp [hm]
      · have h3 : (Lib.indexByte l c == -1) = false := by simpa using hm
        simp only [h3]
        rw [Bool.eq_iff_iff]; simp; omega

set_option maxHeartbeats 400000 in
theorem line_any (s : ByteArray) (w : World) (hs : s.size ≤ maxLen) : Calls Tryd.prog 51 #[.string s] w (RetB w (.bool (lineB s.data.toList))) := by
  have HX := Lib.hid (indexByte_neg s.data.toList 10)
  have HD : Hid (lineB s.data.toList = (!s.data.toList.contains 10 && decide (s.size ≤ 60) && !markB s.data.toList)) := rfl
  by_cases h60 : s.size ≤ 60
  · have hd : decide ((s.size : Int) ≤ 60) = true := by simp; omega
    by_cases hc : s.data.toList.contains 10 = true
    · have F : Hid (lineB s.data.toList = false) := by rw [Hid, HD.out, hc]; rfl
      have hx : decide (Lib.indexByte s.data.toList 10 < 0) = false := by rw [HX.out, hc]; rfl
      clear hc HX HD
      go_enter Tryd.func51, Tryd.ntmps51
      go_wp2_with (go_at_call 63; refine (Tryd.strings_IndexByte _ _ _).mono ?_; rintro e w' ⟨rfl, rfl⟩)
      go_ret
      exact ⟨ret_bool F.out.symm, Below.refl _ _⟩
    · have hc' : s.data.toList.contains 10 = false := by simpa using hc
      have F : Hid (lineB s.data.toList = !markB s.data.toList) := by rw [Hid, HD.out, hc', decide_eq_true h60]; rfl
      have hx : decide (Lib.indexByte s.data.toList 10 < 0) = true := by rw [HX.out, hc']; rfl
      clear hc hc' HX HD
      go_enter Tryd.func51, Tryd.ntmps51
      go_wp2_with (first
        | (go_at_call 63; refine (Tryd.strings_IndexByte _ _ _).mono ?_; rintro e w' ⟨rfl, rfl⟩)
        | (go_at_call 64; refine (mark_any _ _ hs).mono ?_; rintro e w1 ⟨rfl, hb⟩))
      go_ret
      exact ⟨ret_bool F.out.symm, hb⟩
  · have hd : decide ((s.size : Int) ≤ 60) = false := by simp; omega
    have F : Hid (lineB s.data.toList = false) := by rw [Hid, HD.out, decide_eq_false h60]; simp
    clear HX HD
    go_enter Tryd.func51, Tryd.ntmps51
    go_wp2
    go_ret
    exact ⟨ret_bool F.out.symm, Below.refl _ _⟩

set_option maxHeartbeats 400000 in
theorem rline_any (s : ByteArray) (w : World) (hs : s.size ≤ maxLen) : Calls Tryd.prog 58 #[.string s] w (RetB w (.bool (lineB s.data.toList))) := by
  have HS := Lib.hid hs
  have HD : Hid (lineB s.data.toList = (!s.data.toList.contains 10 && decide (s.size ≤ 60) && !markB s.data.toList)) := rfl
  unfold maxLen at hs
  go_enter Tryd.func58, Tryd.ntmps58
  go_wp2
  go_loop [3] (fun i => ∃ k : Nat, k ≤ s.size ∧ i = .int .i64 k ∧ Hid ((s.data.toList.take k).contains 10 = false)) (fun i => s.size - (intOf i).toNat)
  case atStart => exact ⟨0, Nat.zero_le _, rfl, rfl⟩
  case round =>
    obtain ⟨k, hk, rfl, H⟩ := hrel
    by_cases hlt : k < s.size
    · have E : Hid ((s.data.toList.take (k+1)).contains 10 = (s[k] == 10)) := by
        have e1 := contains_snoc s.data.toList k (by simpa using hlt)
        rw [H.out] at e1
        exact e1
      by_cases h10 : s[k] = 10
      · have F : Hid (lineB s.data.toList = false) := by
          rw [Hid, HD.out, contains_of s.data.toList k (by simpa using hlt) h10]; rfl
        have hb : ((((s[k]).toNat : Nat) : Int) == 10) = true := by rw [h10]; rfl
        clear h10
        go_wp2
        go_ret
        exact ⟨ret_bool F.out.symm, Below.refl _ _⟩
      · have hb : ((((s[k]).toNat : Nat) : Int) == 10) = false := by
          simp only [beq_eq_false_iff_ne, ne_eq]; intro h; exact h10 (UInt8.toNat.inj (by rw [show (10 : UInt8).toNat = 10 from rfl]; omega))
        have h10' : (s[k] == 10) = false := by simpa using h10
        have E' : Hid ((s.data.toList.take (k+1)).contains 10 = false) := by rw [Hid, E.out]; exact h10'
        clear h10 h10'
        go_wp2
        go_round
        case rel => exact ⟨k + 1, by omega, by go_num, E'⟩
        case measure => simp [intOf]; omega
    · have hk' : k = s.size := by omega
      subst hk'
      have hc : Hid (s.data.toList.contains 10 = false) := by have h := H.out; rw [List.take_of_length_le (by simp)] at h; exact h
      by_cases h60 : s.size ≤ 60
      · have F : Hid (lineB s.data.toList = !markB s.data.toList) := by rw [Hid, HD.out, hc.out, decide_eq_true h60]; rfl
        have hd : decide ((s.size : Int) ≤ 60) = true := by simp; omega
        go_wp2_with (go_at_call 67; refine (rmark_any _ _ HS.out).mono ?_; rintro e w1 ⟨rfl, hb⟩)
        go_ret
        exact ⟨ret_bool F.out.symm, hb⟩
      · have F : Hid (lineB s.data.toList = false) := by rw [Hid, HD.out, decide_eq_false h60]; simp
        have hd : decide ((s.size : Int) ≤ 60) = false := by simp; omega
        go_wp2
        go_ret
        exact ⟨ret_bool F.out.symm, Below.refl _ _⟩

end Go.Proofs.YtihggkmjalofiaaDoor
