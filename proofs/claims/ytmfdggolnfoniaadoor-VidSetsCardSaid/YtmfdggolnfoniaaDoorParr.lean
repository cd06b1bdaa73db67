/- bruitref10.Value. -/
import Derived.Test.YtmfdggolnfoniaaDoorParq
namespace Go.Proofs.YtmfdggolnfoniaaDoor
open Go.RowKit

def ValRet (s : List UInt8) (most : Nat) (w : World) (e : Ending) (w' : World) : Prop := Below w.heap.size w w' ∧ ((∃ n : Nat, n ≤ most ∧ s = Lib.itoa (n : Int) ∧ e = .returned (.tuple #[.int .i64 n, .bool true])) ∨ ((∀ n : Nat, n ≤ most → s ≠ Lib.itoa (n : Int)) ∧ e = .returned (.tuple #[.int .i64 0, .bool false])))
theorem val_take (l : List UInt8) (k : Nat) : valD (l.take k) 0 ≤ valD l 0 := by
  have e : valD l 0 = valD (l.drop k) (valD (l.take k) 0) := by rw [← valD_app, List.take_append_drop]
  rw [e]; exact valD_ge _ _
theorem val_succ (l : List UInt8) {k : Nat} (hk : k < l.length) : valD (l.take (k + 1)) 0 = valD (l.take k) 0 * 10 + (l[k].toNat - 48) := by
  rw [List.take_succ_eq_append_getElem hk, valD_app, valD_cons]; rfl
theorem no_big {l : List UInt8} {k most : Nat} (h : most < valD (l.take k) 0) : ∀ n : Nat, n ≤ most → l ≠ Lib.itoa (n : Int) := fun n hn e => by
  have h1 := val_take l k
  have h2 : valD l 0 = n := by rw [e, itoa_dec, dec_val]
  omega
theorem no_char {l : List UInt8} {k : Nat} (hk : k < l.length) (h : ¬ (48 ≤ l[k].toNat ∧ l[k].toNat ≤ 57)) : ∀ n : Nat, l ≠ Lib.itoa (n : Int) := fun n e => by
  have h1 : l.all digB = true := by rw [e, itoa_dec]; exact dec_digs n
  exact h (digB_iff.1 (List.all_eq_true.1 h1 _ (List.getElem_mem hk)))

set_option maxRecDepth 100000 in
set_option maxHeartbeats 4000000 in
theorem value_any (s : ByteArray) (most : Nat) (w : World) (hs : s.size ≤ 100) (hm : most ≤ 65535) : Calls Tryd.prog 40 #[.string s, .int .i64 most] w (ValRet s.data.toList most w) := by
  have hl : Hid (s.data.toList.length = s.size) := Array.length_toList
  go_enter Tryd.func40, Tryd.ntmps40
  go_wp2_with fail
  go_loop [6, 7] (fun v i => ∃ k n : Nat, k ≤ s.size ∧ i = .int .i64 k ∧ v = .int .i64 n ∧ n ≤ 655359 ∧ Hid (n = valD (s.data.toList.take k) 0)) (fun _ i => s.size - (intOf i).toNat)
  case atStart => exact ⟨0, 0, by omega, rfl, rfl, by omega, rfl⟩
  case round =>
    obtain ⟨k, n, hk, rfl, rfl, hn, V⟩ := hrel
    by_cases hlt : k < s.size
    · have hkl : k < s.data.toList.length := by rw [hl.out]; exact hlt
      have V2 := Lib.hid (val_succ s.data.toList hkl)
      have hk0 : (0 : Int) ≤ (k : Int) := by omega
      have C := Lib.hid (fun h n => no_char hkl h n)
      have e1 : s.data.toList[k]'hkl = s[k]'hlt := rfl
      rw [e1] at V2 C
      by_cases h1 : 48 ≤ (s[k]'hlt).toNat ∧ (s[k]'hlt).toNat ≤ 57
      · obtain ⟨h1, h2⟩ := h1
        by_cases h3 : n ≤ most
        · have N : Hid (n * 10 + (s[k].toNat - 48) = valD (s.data.toList.take (k + 1)) 0) := by rw [Hid, V2.out, V.out]
          have hz : ((n * 10 + (s[k].toNat - 48) : Nat) : Int) = (n : Int) * 10 + ((s[k].toNat : Int) - 48) := by omega
          have hd3 : decide (most < n) = false := decide_eq_false (by omega)
          clear C V V2 e1
          go_wp2_with fail
          go_round
          case rel => exact ⟨k + 1, _, by omega, by go_num, by rw [hz], by omega, N⟩
          case measure => simp [intOf]; omega
        · have hd3 : decide (most < n) = true := decide_eq_true (by omega)
          have N : Hid (∀ m : Nat, m ≤ most → s.data.toList ≠ Lib.itoa (m : Int)) := no_big (k := k) (by rw [← V.out]; omega)
          clear C V V2 e1 h3
          go_wp2
          go_ret2
          exact ⟨Below.refl _ _, .inr ⟨N.out, rfl⟩⟩
      · have N : Hid (∀ m : Nat, m ≤ most → s.data.toList ≠ Lib.itoa (m : Int)) := fun m _ => C.out h1 m
        clear C V V2 e1
        by_cases h2 : (s[k]'hlt).toNat < 48
        · have d1 : decide ((s[k]'hlt).toNat < 48) = true := decide_eq_true h2
          clear h1
          go_wp2
          go_ret2
          exact ⟨Below.refl _ _, .inr ⟨N.out, rfl⟩⟩
        · have h3 : 57 < (s[k]'hlt).toNat := by omega
          have d1 : decide ((s[k]'hlt).toNat < 48) = false := decide_eq_false h2
          have d2 : decide (57 < (s[k]'hlt).toNat) = true := decide_eq_true h3
          clear h1
          go_wp2
          go_ret2
          exact ⟨Below.refl _ _, .inr ⟨N.out, rfl⟩⟩
    · have hk' : k = s.size := by omega
      subst hk'
      have V2 : n = valD s.data.toList 0 := by
        have := V.out
        rwa [List.take_of_length_le (by rw [hl.out]; exact Nat.le_refl _)] at this
      by_cases h0 : s.size = 0
      · have N : Hid (∀ m : Nat, m ≤ most → s.data.toList ≠ Lib.itoa (m : Int)) := fun m _ e => by
          have h1 := hl.out
          rw [h0, List.length_eq_zero_iff] at h1
          rw [h1, itoa_dec] at e
          exact dec_ne m e.symm
        have d0 : decide (s.size = 0) = true := decide_eq_true h0
        clear V V2
        go_wp2
        all_goals go_ret2
        all_goals exact ⟨Below.refl _ _, .inr ⟨N.out, rfl⟩⟩
      · by_cases h3 : n ≤ most
        · have hd3 : decide (most < n) = false := decide_eq_false (by omega)
          have DG := Lib.hid (fun w0 => digits_any n (by omega) w0)
          by_cases he : s.data.toList = Lib.itoa (n : Int)
          · obtain rfl : s = ⟨(Lib.itoa (n : Int)).toArray⟩ := by
              apply ByteArray.ext
              rw [← he]
            have hx : Lib.itoa (n : Int) ≠ [] := by rw [itoa_dec]; exact dec_ne n
            clear he V V2 hl
            generalize hxx : Lib.itoa (n : Int) = tx at *
            have hxx := Lib.hid hxx
            have hx2 : ¬ tx.length = 0 := fun e => hx (List.length_eq_zero_iff.1 e)
            have hx3 : tx.isEmpty = false := by cases tx; exact absurd rfl hx; rfl
            go_wp2_with fail
            refine (DG.out _).mono ?_
            rintro e w2 ⟨rfl, b2⟩
            have B2 := Lib.hid b2
            clear b2
            go_wp2
            go_ret2
            exact ⟨B2.out, .inl ⟨n, h3, hxx.out.symm, rfl⟩⟩
          · have N : Hid (∀ m : Nat, m ≤ most → s.data.toList ≠ Lib.itoa (m : Int)) := fun m _ e => he (by
              have h1 : valD s.data.toList 0 = m := by rw [e, itoa_dec, dec_val]
              rw [V2, h1]; exact e)
            have d3 : (Lib.itoa (n : Int) == s.toList) = false := by rw [ByteArray.toList_eq]; exact beq_eq_false_iff_ne.2 (Ne.symm he)
            have d4 : (Lib.itoa (n : Int) == s.data.toList) = false := beq_eq_false_iff_ne.2 (Ne.symm he)
            have d5 : (Lib.itoa (n : Int) != s.toList) = true := by rw [ByteArray.toList_eq]; exact bne_iff_ne.2 (Ne.symm he)
            have d6 : (Lib.itoa (n : Int) != s.data.toList) = true := bne_iff_ne.2 (Ne.symm he)
            have d0 : decide (s.size = 0) = false := decide_eq_false h0
            clear he V V2 hl
            generalize Lib.itoa (n : Int) = tx at *
            go_wp2_with fail
            refine (DG.out _).mono ?_
            rintro e w2 ⟨rfl, b2⟩
            have B2 := Lib.hid b2
            clear b2
            go_wp2
            go_ret2
            exact ⟨B2.out, .inr ⟨N.out, rfl⟩⟩
        · have N : Hid (∀ m : Nat, m ≤ most → s.data.toList ≠ Lib.itoa (m : Int)) := no_big (k := s.data.toList.length) (by rw [List.take_length, ← V2]; omega)
          have hd3 : decide (most < n) = true := decide_eq_true (by omega)
          clear V V2 h3
          go_wp2
          all_goals go_ret2
          all_goals exact ⟨Below.refl _ _, .inr ⟨N.out, rfl⟩⟩
end Go.Proofs.YtmfdggolnfoniaaDoor
