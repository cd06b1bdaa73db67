/- The statement on one text more: walked. -/
import Derived.Test.YtlebhalaodmkhaaLcse
import Derived.Test.YtlebhalaodmkhaaCat
namespace Go.Proofs.Ytlebhalaodmkhaa
open Go.RowKit

theorem strSl : SlT Try.prog 33 9 1 16 := slT_of Try.underlying33 (z := .string ByteArray.empty) (by kernel_rfl) rfl (by omega)
theorem strs_one (l : List ByteArray) : ∀ u ∈ l.map Value.string, u.oneCell' = true := by
  intro u hu; obtain ⟨s, _, rfl⟩ := List.mem_map.1 hu; rfl
theorem own_drew' {w : World} {base : Nat} {e : TypeId} {size n : Nat} {v : Value} {xs : List Value} (h : w.ownsRow base e size v n xs) (k : Nat) : (w.drewN k).ownsRow base e size v n xs := h
theorem sl_of_own {w : World} {base : Nat} {e : TypeId} {n : Nat} {v : Value} {xs : List Value} (h : w.ownsRow base e 1 v n xs) : ∃ A c, v = .slice A n c ∧ Sl w w.heap.size 1 A n xs := by
  obtain ⟨A, c, h1, _, h2⟩ := Sl.of_own h; exact ⟨A, c, h1, h2⟩
theorem own_lit0 (w : World) (e : TypeId) : (w.alloc (.cells #[] e)).ownsRow w.heap.size e 1 (.slice (some ⟨w.heap.size, 0, none⟩) 0 0) 0 [] :=
  ⟨by simp, .inr ⟨_, 0, #[], rfl, Nat.le_refl _, heap_alloc_new w _, Nat.le_refl _, by simp [maxLen], by simp, by simp⟩⟩
theorem own_lit1 (w : World) (e : TypeId) (s : ByteArray) : (w.alloc (.cells #[.string s] e)).ownsRow w.heap.size e 1 (.slice (some ⟨w.heap.size, 0, none⟩) 1 1) 1 [.string s] :=
  ⟨by simp, .inr ⟨_, 1, #[.string s], rfl, Nat.le_refl _, heap_alloc_new w _, Nat.le_refl _, by simp [maxLen], by simp, by simp⟩⟩

theorem length_at (xs ys : List ByteArray) (A B : Option Addr) (n m ca cb : Nat) (w : World) (hn : n = xs.length) (hm : m = ys.length) (ha : Sl w w.heap.size 1 A n (xs.map Value.string)) (hb : Sl w w.heap.size 1 B m (ys.map Value.string)) (h1 : n ≤ 100) (h2 : m ≤ 100) :
    Calls Try.prog 27 #[.slice A n ca, .slice B m cb] w (RetB w (.int .i64 (lcsL xs ys))) := by
  subst hn hm; exact length_any xs ys A B ca cb w ha hb h1 h2

set_option maxRecDepth 100000 in
set_option maxHeartbeats 2000000 in
theorem lcsMore_core (w : World) (xs ys : List ByteArray) (A B : Option Addr) (ca cb : Nat) (s : ByteArray) (ha : Sl w w.heap.size 1 A xs.length (xs.map Value.string)) (hb : Sl w w.heap.size 1 B ys.length (ys.map Value.string)) :
    Calls Try.prog 8 #[.slice A xs.length ca, .slice B ys.length cb, .string s] w (RetB w (.bool true)) := by
  have HA := Lib.hid ha
  have HB := Lib.hid hb
  have F1 := Lib.hid (few_any xs A ca w ha)
  have F2 := Lib.hid (few_any ys B cb w hb)
  have L1 : Hid (fewB xs = true → xs.length ≤ 40) := fewB_len
  have L2 : Hid (fewB ys = true → ys.length ≤ 40) := fewB_len
  clear ha hb
  generalize fewB xs = b1 at *
  generalize fewB ys = b2 at *
  cases b1
  · clear L1 L2 F2
    go_enter Try.func8, Try.ntmps8
    go_wp2_with fail
    refine F1.out.mono ?_
    rintro e w1 ⟨rfl, rfl⟩
    go_wp2_with (go_at_call 24; refine (works26 _).mono ?_; rintro e w2 ⟨rfl, hb⟩)
    go_ret
    exact ⟨rfl, hb⟩
  · cases b2
    · clear L1 L2
      go_enter Try.func8, Try.ntmps8
      go_wp2_with fail
      refine F1.out.mono ?_
      rintro e w1 ⟨rfl, rfl⟩
      go_wp2_with fail
      refine F2.out.mono ?_
      rintro e w1 ⟨rfl, rfl⟩
      go_wp2_with (go_at_call 24; refine (works26 _).mono ?_; rintro e w2 ⟨rfl, hb⟩)
      go_ret
      exact ⟨rfl, hb⟩
    · have l1 := L1.out rfl
      have l2 := L2.out rfl
      clear L1 L2
      by_cases hs : (s.size : Int) > 100
      · go_enter Try.func8, Try.ntmps8
        go_wp2_with fail
        refine F1.out.mono ?_
        rintro e w1 ⟨rfl, rfl⟩
        go_wp2_with fail
        refine F2.out.mono ?_
        rintro e w1 ⟨rfl, rfl⟩
        go_wp2_with (go_at_call 24; refine (works26 _).mono ?_; rintro e w2 ⟨rfl, hb⟩)
        go_ret
        exact ⟨rfl, hb⟩
      have hsd : decide ((s.size : Int) > 100) = false := decide_eq_false hs
      have N0 := Lib.hid (fun w1 ha hb => length_any xs ys A B ca cb w1 ha hb (by omega) (by omega))
      have LE := lcsT_le xs ys 0 0
      have LE' : lcsL xs ys ≤ 40 := by have : lcsT xs ys 0 0 = lcsL xs ys := rfl; omega
      have G1 := lcs_snoc_le s xs ys
      have G2 := lcs_snoc_ge s xs ys
      have G3 := lcs_cons_le' s xs ys
      have G4 := lcs_cons_ge' s xs ys
      have G5 := lcs_snoc_both s xs ys
      clear LE
      have NC := Lib.hid (fun A1 c1 w1 ha hb => length_at (xs ++ [s]) ys A1 B (0 + xs.length + 1) ys.length c1 cb w1 (by simp) rfl ha hb (by omega) (by omega))
      have ND := Lib.hid (fun A1 c1 w1 ha hb => length_at xs (s :: ys) A A1 xs.length (1 + ys.length) ca c1 w1 rfl (by simp; omega) ha hb (by omega) (by omega))
      have NE := Lib.hid (fun A1 c1 A2 c2 w1 ha hb => length_at (xs ++ [s]) (ys ++ [s]) A1 A2 (xs.length + 1) (ys.length + 1) c1 c2 w1 (by simp) (by simp) ha hb (by omega) (by omega))
      have X1 := Lib.hid (strs_one xs)
      have Y1 := Lib.hid (strs_one ys)
      generalize lcsL (xs ++ [s]) (ys ++ [s]) = v5 at *
      generalize lcsL (xs ++ [s]) ys = v3 at *
      generalize lcsL xs (s :: ys) = v4 at *
      generalize lcsL xs ys = v0 at *
      go_enter Try.func8, Try.ntmps8
      go_wp2_with fail
      refine F1.out.mono ?_
      rintro e w1 ⟨rfl, rfl⟩
      go_wp2_with fail
      refine F2.out.mono ?_
      rintro e w1 ⟨rfl, rfl⟩
      clear F1 F2
      go_wp2_with fail
      refine (N0.out _ HA.out HB.out).mono ?_
      rintro e w1 ⟨rfl, hb1⟩
      have HA1 := Lib.hid (HA.out.up hb1 (Nat.le_refl _))
      have HB1 := Lib.hid (HB.out.up hb1 (Nat.le_refl _))
      have B1 := Lib.hid hb1
      clear HA HB N0 hb1
      go_wp2_with (first
        | (at_builtin
           refine wpList_cat strSl (own_lit0 w1 9) (HA1.out.up (below_new w1 (.cells #[] 9)) (Nat.le_refl _)) X1.out (below_new w1 (.cells #[] 9)).size (by omega) (by unfold maxLen; omega) (by rfl) (by rfl) ?_
           intro vv2 w2 own2 bel2)
        | (at_builtin
           refine wpList_push strSl own2 [.string s] rfl (by simp [Value.oneCell']) (Nat.le_trans (below_new w1 (.cells #[] 9)).size bel2.size) (by omega) (by unfold maxLen; omega) (by rfl) (by rfl) (by rfl) ?_
           intro vv3 w3 own3 bel3
           have Q3 : Below w1.heap.size w1 w3 := ((below_new w1 (.cells #[] 9)).trans bel2).trans bel3)
        | (at_builtin
           refine wpList_cat strSl (own_lit1 w3 9 s) ((HB1.out.up Q3 (Nat.le_refl _)).up (below_new w3 (.cells #[.string s] 9)) (Nat.le_refl _)) Y1.out (below_new w3 (.cells #[.string s] 9)).size (by omega) (by unfold maxLen; omega) (by rfl) (by rfl) ?_
           intro vv4 w4 own4 bel4
           have Q4 : Below w1.heap.size w1 w4 := Q3.trans (((below_new w3 (.cells #[.string s] 9)).trans bel4).mono Q3.size))
        | (at_builtin
           refine wpList_cat strSl (own_lit0 w4 9) ((HB1.out.up Q4 (Nat.le_refl _)).up (below_new w4 (.cells #[] 9)) (Nat.le_refl _)) Y1.out (below_new w4 (.cells #[] 9)).size (by omega) (by unfold maxLen; omega) (by rfl) (by rfl) ?_
           intro vv5 w5 own5 bel5)
        | (at_builtin
           refine wpList_push strSl own5 [.string s] rfl (by simp [Value.oneCell']) (Nat.le_trans (below_new w4 (.cells #[] 9)).size bel5.size) (by omega) (by unfold maxLen; omega) (by rfl) (by rfl) (by rfl) ?_
           intro vv6 w6 own6 bel6
           have Q6 : Below w4.heap.size w4 w6 := ((below_new w4 (.cells #[] 9)).trans bel5).trans bel6
           have R3 := Lib.hid (sl_of_own own3)
           have R4 := Lib.hid (sl_of_own own4)
           have R6 := Lib.hid (sl_of_own own6)
           have P3 := Lib.hid Q3
           have P4 := Lib.hid Q4
           have P5 := Lib.hid ((below_new w3 (.cells #[.string s] 9)).trans bel4)
           have P6 := Lib.hid Q6
           clear own2 own3 own4 own5 own6 bel2 bel3 bel4 bel5 bel6 Q3 Q4 Q6))
      obtain ⟨A3, c3, rfl, s3⟩ := R3.out
      obtain ⟨A4, c4, rfl, s4⟩ := R4.out
      obtain ⟨A6, c6, rfl, s6⟩ := R6.out
      clear R3 R4 R6
      have S3 : Hid (Sl w3 w3.heap.size 1 A3 (0 + xs.length + 1) ((xs ++ [s]).map Value.string)) := by rw [Hid]; simpa using s3
      have S4 : Hid (Sl w4 w4.heap.size 1 A4 (1 + ys.length) ((s :: ys).map Value.string)) := s4
      have S6 : Hid (Sl w6 w6.heap.size 1 A6 (0 + ys.length + 1) ((ys ++ [s]).map Value.string)) := by rw [Hid]; simpa using s6
      clear s3 s4 s6 X1 Y1
      have HA6 := Lib.hid ((HA1.out.up P4.out (Nat.le_refl _)).up P6.out (Nat.le_refl _))
      have HB6 := Lib.hid ((HB1.out.up P4.out (Nat.le_refl _)).up P6.out (Nat.le_refl _))
      have P34 := Lib.hid (P5.out)
      have S36 := Lib.hid ((S3.out.up P34.out (Nat.le_refl _)).up P6.out (Nat.le_refl _))
      have S46 := Lib.hid (S4.out.up P6.out (Nat.le_refl _))
      have B6 := Lib.hid (ext_trans B1.out (ext_trans P4.out P6.out))
      clear HA1 HB1 P3 P4 P34 P5 P6 S3 S4 B1
      refine (NC.out _ _ _ S36.out HB6.out).mono ?_
      rintro e w7 ⟨rfl, hb7⟩
      have HA7 := Lib.hid (HA6.out.up hb7 (Nat.le_refl _))
      have S37 := Lib.hid (S36.out.up hb7 (Nat.le_refl _))
      have S47 := Lib.hid (S46.out.up hb7 (Nat.le_refl _))
      have S67 := Lib.hid (S6.out.up hb7 (Nat.le_refl _))
      have B7 := Lib.hid (ext_trans B6.out hb7)
      clear HA6 HB6 S36 S46 S6 B6 hb7 NC
      go_wp2_with fail
      refine (ND.out _ _ _ HA7.out S47.out).mono ?_
      rintro e w8 ⟨rfl, hb8⟩
      have S38 := Lib.hid (S37.out.up hb8 (Nat.le_refl _))
      have S68 := Lib.hid (S67.out.up hb8 (Nat.le_refl _))
      have B8 := Lib.hid (ext_trans B7.out hb8)
      clear HA7 S37 S47 S67 B7 hb8 ND
      have g1 : (v3 : Int) ≤ (v0 : Int) + 1 := by omega
      have g3 : (v4 : Int) ≤ (v0 : Int) + 1 := by omega
      have g5 : ((v5 : Int) == (v0 : Int) + 1) = true := by rw [beq_iff_eq]; omega
      clear G1 G3 G5
      go_wp2_with fail
      refine (NE.out _ _ _ _ _ (by have := S38.out; rwa [Nat.zero_add] at this) (by have := S68.out; rwa [Nat.zero_add] at this)).mono ?_
      rintro e w9 ⟨rfl, hb9⟩
      have B9 := Lib.hid (ext_trans B8.out hb9)
      clear S38 S68 B8 hb9 NE
      go_wp2_with (go_at_call 24; refine (works26 _).mono ?_; rintro e w2 ⟨rfl, hb⟩)
      go_ret
      exact ⟨rfl, ext_trans B9.out hb⟩
end Go.Proofs.Ytlebhalaodmkhaa
