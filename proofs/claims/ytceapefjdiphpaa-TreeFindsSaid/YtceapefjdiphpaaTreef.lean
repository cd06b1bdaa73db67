/- Trees: whether a file may be recorded. -/
import Derived.Test.YtceapefjdiphpaaTreee
namespace Go.Proofs.Ytceapefjdiphpaa
open Go.RowKit

/-- a line that may not be -/
def badL (s : ByteArray) : Bool := !lineB s.data.toList
def goodF (f : FileV) : Bool := nameB f.name.data.toList && (decide (f.also.length = 0) && (decide (f.lines.length ≤ 60) && !f.lines.any badL))
def IdxRet (l : List ByteArray) (w : World) (e : Ending) (w' : World) : Prop := Below w.heap.size w w' ∧ ∃ r : Int, e = .returned (.int .i64 r) ∧ ((l.any badL = true ∧ 0 ≤ r) ∨ (l.any badL = false ∧ r = -1))

set_option maxHeartbeats 1000000 in
theorem good1_any (s : ByteArray) (w : World) (hs : s.size ≤ maxLen) : Calls Try.prog 79 #[.string s] w (RetB w (.bool (badL s))) := by
  have HL := Lib.hid (fun w0 => line_any s w0 hs)
  have E : Hid (badL s = !lineB s.data.toList) := rfl
  clear hs
  generalize lineB s.data.toList = b at *
  go_enter Try.func79, Try.ntmps79
  go_wp2_with fail
  refine (HL.out _).mono ?_
  rintro e w1 ⟨rfl, b1⟩
  have B1 := Lib.hid b1
  clear b1
  go_wp2
  go_ret
  exact ⟨ret_bool E.out.symm, B1.out⟩

set_option maxRecDepth 100000 in
set_option maxHeartbeats 2000000 in
theorem idxLine_any (l : List ByteArray) (w : World) (A : Option Addr) (n c : Nat) (hn : l.length = n) (hm : n ≤ maxLen) (hz : ∀ s ∈ l, s.size ≤ maxLen) (h : Sl w w.heap.size 1 A n (strsC l)) :
    Calls Try.prog 83 #[.slice A n c, .func (.func 79) #[] #[]] w (IdxRet l w) := by
  unfold maxLen at hm
  have HL := Lib.hid hn
  have H := Lib.hid h
  have Z := Lib.hid hz
  clear h hn hz
  go_enter Try.func83, Try.ntmps83
  go_wp2_with fail
  go_loopw [8] (fun i wr => ∃ k : Nat, k ≤ n ∧ i = .int .i64 k ∧ Hid ((l.take k).any badL = false) ∧ Below w.heap.size w wr) (fun i _ => n - (intOf i).toNat)
  case atStart => exact ⟨0, by omega, rfl, by simp [Hid], Below.refl _ _⟩
  case round =>
    obtain ⟨k, hk, rfl, T, hbl⟩ := hrel
    have B := Lib.hid hbl
    clear hbl
    by_cases hlt : k < n
    · obtain ⟨b, o, rfl, hb, L1⟩ := strs_at H.out HL.out (k := k) (by rw [HL.out]; exact hlt)
      have hmem := List.getElem_mem (show k < l.length by rw [HL.out]; exact hlt)
      have HC := Lib.hid (good1_any _ wr (Z.out _ hmem))
      have P1 : Hid (l.take (k + 1) = l.take k ++ [l[k]'(by rw [HL.out]; exact hlt)]) := List.take_succ_eq_append_getElem _
      have M := Lib.hid hmem
      generalize l[k]'(by rw [HL.out]; exact hlt) = s at *
      clear hmem
      have c0 : wr.cell? ⟨b, o + k, none⟩ = some (.string s) := by rw [B.out.cell (p := ⟨b, o + k, none⟩) hb]; exact L1
      clear L1
      have hlk : (k : Int) < (n : Int) := by omega
      have hk0 : (0 : Int) ≤ (k : Int) := by omega
      rcases hbad : badL s with _ | _
      · have N : Hid ((l.take (k + 1)).any badL = false) := by rw [Hid, P1.out, List.any_append, T.out]; simp [hbad]
        rw [hbad] at HC
        clear T P1 M hbad
        go_wp2_with fail
        refine HC.out.mono ?_
        rintro e w3 ⟨rfl, b3⟩
        have B3 := Lib.hid (B.out.trans (b3.mono B.out.size))
        clear b3 HC c0
        go_wp2_with fail
        go_roundw
        case rel => exact ⟨k + 1, by omega, by go_num, N, B3.out⟩
        case measure => simp [intOf]; omega
      · have N : Hid (l.any badL = true) := List.any_eq_true.2 ⟨s, M.out, hbad⟩
        rw [hbad] at HC
        clear T P1 M hbad
        go_wp2_with fail
        refine HC.out.mono ?_
        rintro e w3 ⟨rfl, b3⟩
        have B3 := Lib.hid (B.out.trans (b3.mono B.out.size))
        clear b3 HC c0
        go_wp2_with fail
        go_ret
        exact ⟨B3.out, k, rfl, .inl ⟨N.out, hk0⟩⟩
    · have hk' : k = n := by omega
      subst hk'
      have N : Hid (l.any badL = false) := by have := T.out; rwa [List.take_of_length_le (by rw [HL.out]; exact Nat.le_refl _)] at this
      clear T
      go_wp2
      go_ret
      exact ⟨B.out, -1, rfl, .inr ⟨N.out, rfl⟩⟩

set_option maxRecDepth 100000 in
set_option maxHeartbeats 1000000 in
theorem contLine_any (l : List ByteArray) (w : World) (A : Option Addr) (n c : Nat) (hn : l.length = n) (hm : n ≤ maxLen) (hz : ∀ s ∈ l, s.size ≤ maxLen) (h : Sl w w.heap.size 1 A n (strsC l)) :
    Calls Try.prog 78 #[.slice A n c, .func (.func 79) #[] #[]] w (RetB w (.bool (l.any badL))) := by
  have HI := Lib.hid (idxLine_any l w A n c hn hm hz h)
  clear hn hm hz h
  go_enter Try.func78, Try.ntmps78
  go_wp2_with fail
  refine HI.out.mono ?_
  rintro e w1 ⟨b1, r, rfl, hr⟩
  have B1 := Lib.hid b1
  clear b1 HI
  rcases hr with ⟨h1, h2⟩ | ⟨h1, rfl⟩
  · have N := Lib.hid h1
    have d : decide (0 ≤ r) = true := decide_eq_true h2
    clear h1
    go_wp2
    go_ret
    exact ⟨ret_bool N.out.symm, B1.out⟩
  · have N := Lib.hid h1
    clear h1
    go_wp2
    go_ret
    exact ⟨ret_bool N.out.symm, B1.out⟩

set_option maxRecDepth 100000 in
set_option maxHeartbeats 2000000 in
theorem goodF_any (f : FileV) (w : World) (h : FileOk w w.heap.size f) :
    Calls Try.prog 59 #[.agg #[.string f.name, .slice f.A f.also.length f.c, .slice f.L f.lines.length f.d]] w (RetB w (.bool (goodF f))) := by
  have HN := Lib.hid (fun w0 => name_any f.name w0 h.hn)
  have HC : Hid (∀ w0, Below w.heap.size w w0 → Calls Try.prog 78 #[.slice f.L f.lines.length f.d, .func (.func 79) #[] #[]] w0 (RetB w0 (.bool (f.lines.any badL)))) := fun w0 hb =>
    contLine_any f.lines w0 f.L f.lines.length f.d rfl (Nat.le_trans h.lc.1 h.lc.2) h.zl (h.up hb).sl
  have B0 : Hid (Below w.heap.size w (w.alloc (.cells #[.string f.name, .slice f.A f.also.length f.c, .slice f.L f.lines.length f.d] 68))) := below_new _ _
  have K1 : Hid (Blk (w.alloc (.cells #[.string f.name, .slice f.A f.also.length f.c, .slice f.L f.lines.length f.d] 68)) w.heap.size 68 #[.string f.name, .slice f.A f.also.length f.c, .slice f.L f.lines.length f.d]) := Blk.new _ _ _
  have EQ : Hid (goodF f = (nameB f.name.data.toList && (decide (f.also.length = 0) && (decide (f.lines.length ≤ 60) && !f.lines.any badL)))) := rfl
  clear h
  rcases hb0 : nameB f.name.data.toList with _ | _
  · have F : Hid (goodF f = false) := by rw [Hid, EQ.out, hb0]; rfl
    rw [hb0] at HN
    clear hb0 EQ
    go_enter Try.func59, Try.ntmps59
    go_wp2_with fail
    generalize (w.alloc (.cells #[.string f.name, .slice f.A f.also.length f.c, .slice f.L f.lines.length f.d] 68)) = w0 at *
    refine (HN.out _).mono ?_
    rintro e w1 ⟨rfl, b1⟩
    have B1 := Lib.hid (ext_trans B0.out b1)
    clear b1 B0 K1
    go_wp2
    go_ret
    exact ⟨ret_bool F.out.symm, B1.out⟩
  · rw [hb0] at HN
    by_cases h1 : f.also.length = 0
    · have d1 : ((f.also.length : Int) == 0) = true := by simp [h1]
      by_cases h2 : f.lines.length ≤ 60
      · have d2 : decide ((f.lines.length : Int) ≤ 60) = true := decide_eq_true (by omega)
        have F : Hid (goodF f = !f.lines.any badL) := by rw [Hid, EQ.out, hb0, decide_eq_true h1, decide_eq_true h2]; rfl
        clear hb0 EQ h1
        generalize f.lines.any badL = q at *
        go_enter Try.func59, Try.ntmps59
        go_wp2_with fail
        generalize (w.alloc (.cells #[.string f.name, .slice f.A f.also.length f.c, .slice f.L f.lines.length f.d] 68)) = w0 at *
        refine (HN.out _).mono ?_
        rintro e w1 ⟨rfl, b1⟩
        have B1 := Lib.hid (ext_trans B0.out b1)
        have K2 := Lib.hid (K1.out.ext b1)
        have p1 : w1.cell? ⟨w.heap.size, 1, none⟩ = some (.slice f.A f.also.length f.c) := K2.out.cell 1
        have p2 : w1.cell? ⟨w.heap.size, 2, none⟩ = some (.slice f.L f.lines.length f.d) := K2.out.cell 2
        clear b1 B0 K1 K2
        go_wp2_with fail
        refine (HC.out w1 B1.out).mono ?_
        rintro e w2 ⟨rfl, b2⟩
        have B2 := Lib.hid (B1.out.trans (b2.mono B1.out.size))
        clear b2 B1 p1 p2
        go_wp2
        go_ret
        exact ⟨ret_bool F.out.symm, B2.out⟩
      · have d2 : decide ((f.lines.length : Int) ≤ 60) = false := decide_eq_false (by omega)
        have F : Hid (goodF f = false) := by rw [Hid, EQ.out, hb0, decide_eq_true h1, decide_eq_false h2]; rfl
        clear hb0 EQ h1
        go_enter Try.func59, Try.ntmps59
        go_wp2_with fail
        generalize (w.alloc (.cells #[.string f.name, .slice f.A f.also.length f.c, .slice f.L f.lines.length f.d] 68)) = w0 at *
        refine (HN.out _).mono ?_
        rintro e w1 ⟨rfl, b1⟩
        have B1 := Lib.hid (ext_trans B0.out b1)
        have K2 := Lib.hid (K1.out.ext b1)
        have p1 : w1.cell? ⟨w.heap.size, 1, none⟩ = some (.slice f.A f.also.length f.c) := K2.out.cell 1
        have p2 : w1.cell? ⟨w.heap.size, 2, none⟩ = some (.slice f.L f.lines.length f.d) := K2.out.cell 2
        clear b1 B0 K1 K2
        go_wp2
        go_ret
        exact ⟨ret_bool F.out.symm, B1.out⟩
    · have d1 : ((f.also.length : Int) == 0) = false := by simp; intro e; exact h1 (by rw [e]; rfl)
      have F : Hid (goodF f = false) := by rw [Hid, EQ.out, hb0, decide_eq_false h1]; rfl
      clear hb0 EQ h1
      go_enter Try.func59, Try.ntmps59
      go_wp2_with fail
      generalize (w.alloc (.cells #[.string f.name, .slice f.A f.also.length f.c, .slice f.L f.lines.length f.d] 68)) = w0 at *
      refine (HN.out _).mono ?_
      rintro e w1 ⟨rfl, b1⟩
      have B1 := Lib.hid (ext_trans B0.out b1)
      have K2 := Lib.hid (K1.out.ext b1)
      have p1 : w1.cell? ⟨w.heap.size, 1, none⟩ = some (.slice f.A f.also.length f.c) := K2.out.cell 1
      clear b1 B0 K1 K2
      go_wp2
      go_ret
      exact ⟨ret_bool F.out.symm, B1.out⟩
end Go.Proofs.Ytceapefjdiphpaa
