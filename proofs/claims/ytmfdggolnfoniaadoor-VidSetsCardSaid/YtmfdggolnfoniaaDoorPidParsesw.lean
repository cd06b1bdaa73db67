/- Names of patches read from texts: the statement walked. -/
import Derived.Test.YtmfdggolnfoniaaDoorParu
namespace Go.Proofs.YtmfdggolnfoniaaDoor
open Go.RowKit

def PR (s : List UInt8) (a n : Nat) (b : Bool) : Prop := (b = true ∧ s = pidText a n) ∨ (b = false ∧ a = 0 ∧ n = 0 ∧ ∀ a n : Nat, a < 256 → n < 65536 → s ≠ pidText a n)
theorem parse_form {s : List UInt8} {w w' : World} {e : Ending} (h : ParseRet s w e w') : ∃ (a n : Nat) (b : Bool), a < 256 ∧ n < 65536 ∧ e = .returned (.tuple #[.agg #[.int .u8 a, .int .u16 n], .bool b]) ∧ Below w.heap.size w w' ∧ PR s a n b := by
  obtain ⟨hb, ⟨a, n, ha, hn, hs, he⟩ | ⟨hs, he⟩⟩ := h
  · exact ⟨a, n, true, ha, hn, he, hb, .inl ⟨rfl, hs⟩⟩
  · exact ⟨0, 0, false, by omega, by omega, he, hb, .inr ⟨rfl, rfl, rfl, hs⟩⟩
theorem PR_uniq {s : List UInt8} {a n a' n' : Nat} {b b' : Bool} (h : PR s a n b) (h' : PR s a' n' b') (ha : a < 256) (hn : n < 65536) (ha' : a' < 256) (hn' : n' < 65536) : a = a' ∧ n = n' ∧ b = b' := by
  rcases h with ⟨rfl, rfl⟩ | ⟨rfl, rfl, rfl, h⟩
  · rcases h' with ⟨rfl, h'⟩ | ⟨rfl, rfl, rfl, h'⟩
    · obtain ⟨rfl, rfl⟩ := pidText_inj h'
      exact ⟨rfl, rfl, rfl⟩
    · exact absurd rfl (h' a n ha hn)
  · rcases h' with ⟨rfl, h'⟩ | ⟨rfl, rfl, rfl, h'⟩
    · exact absurd h' (h a' n' ha' hn')
    · exact ⟨rfl, rfl, rfl⟩
theorem itoa_len5 {a : Nat} (h : a < 65536) : (Lib.itoa (a : Int)).length ≤ 5 := by
  rw [itoa_dec]
  have go : ∀ u : Nat, ∀ k : Nat, u < 10 ^ (k + 1) → (Lib.decDigits u).length ≤ k + 1 := by
    intro u
    induction u using Nat.strongRecOn with
    | _ u ih =>
      intro k hk
      rw [Lib.decDigits]
      split
      · simp
      · rename_i h1
        cases k with
        | zero => simp at hk; omega
        | succ k =>
          have := ih (u / 10) (by omega) k (by rw [Nat.pow_succ] at hk; omega)
          simp only [List.length_append, List.length_cons, List.length_nil]
          omega
  exact go a 4 (by omega)
theorem pidText_len {a n : Nat} (ha : a < 256) (hn : n < 65536) : (pidText a n).length ≤ 11 := by
  unfold pidText
  have h1 := itoa_len5 (a := a) (by omega)
  have h2 := itoa_len5 hn
  simp only [List.length_append, List.length_cons]
  omega

set_option maxRecDepth 100000 in
set_option maxHeartbeats 4000000 in
theorem pidParses_main (s : ByteArray) (hs : s.size ≤ maxLen) (pa ps : Nat) (ha : pa < 256) (hps : ps < 65536) (w : World) (hT : PW w) :
    Calls Tryd.prog 3 #[.string s, .agg #[.int .u8 pa, .int .u16 ps]] w (RetB w (.bool true)) := by
  unfold maxLen at hs
  have B0 : Hid (Below w.heap.size w (w.alloc (.cells #[.int .u8 pa, .int .u16 ps] 24))) := below_new' _ _
  have T0 := Lib.hid (hT.ext B0.out)
  have K0 : Hid (Blk (w.alloc (.cells #[.int .u8 pa, .int .u16 ps] 24)) w.heap.size 24 #[.int .u8 pa, .int .u16 ps]) := Blk.new _ _ _
  by_cases h40 : s.size ≤ 40
  · have d0 : decide ((40 : Int) < (s.size : Int)) = false := decide_eq_false (by omega)
    have d0' : decide (40 < s.size) = false := decide_eq_false (by omega)
    have HX := Lib.hid (fun w0 (h : PW w0) => text_any pa ps ha hps w0 h.tab)
    have TL : Hid ((⟨(pidText pa ps).toArray⟩ : ByteArray).size ≤ 100) := by
      show (pidText pa ps).toArray.size ≤ 100
      have := pidText_len ha hps
      rw [List.size_toArray]; omega
    have HA := Lib.hid ha
    have HN := Lib.hid hps
    clear hT ha hps
    go_enter Tryd.func3, Tryd.ntmps3
    go_wp2_with fail
    generalize w.alloc (.cells #[.int .u8 pa, .int .u16 ps] 24) = w0 at *
    refine (parse_any s w0 (by omega) T0.out).mono ?_
    rintro e w1 h1
    obtain ⟨a, n, b, ha, hn, rfl, b1, r1⟩ := parse_form h1
    have B1 : Hid (Below w.heap.size w (w1.alloc (.cells #[.int .u8 a, .int .u16 n] 24))) := (B0.out.trans (b1.mono B0.out.size)).trans ((below_new' w1 _).mono (Nat.le_trans B0.out.size b1.size))
    have K1 := Lib.hid ((K0.out.ext b1).alloc (.cells #[.int .u8 a, .int .u16 n] 24))
    have T1 := Lib.hid ((T0.out.ext b1).ext (below_new' w1 (.cells #[.int .u8 a, .int .u16 n] 24)))
    have M1 : Hid (Blk (w1.alloc (.cells #[.int .u8 a, .int .u16 n] 24)) w1.heap.size 24 #[.int .u8 a, .int .u16 n]) := Blk.new _ _ _
    have R1 := Lib.hid r1
    have HA1 := Lib.hid ha
    have HN1 := Lib.hid hn
    clear h1 b1 r1 ha hn B0 K0 T0
    go_wp2_with fail
    generalize w1.alloc (.cells #[.int .u8 a, .int .u16 n] 24) = w2 at *
    generalize w1.heap.size = g1 at *
    refine (rparse_any s w2 (by omega)).mono ?_
    rintro e w3 h3
    obtain ⟨a', n', b', ha', hn', rfl, b3, r3⟩ := parse_form h3
    obtain ⟨rfl, rfl, rfl⟩ := PR_uniq R1.out r3 HA1.out HN1.out ha' hn'
    have B3 : Hid (Below w.heap.size w (w3.alloc (.cells #[.int .u8 a, .int .u16 n] 24))) := (B1.out.trans (b3.mono B1.out.size)).trans ((below_new' w3 _).mono (Nat.le_trans B1.out.size b3.size))
    have K3 := Lib.hid ((K1.out.ext b3).alloc (.cells #[.int .u8 a, .int .u16 n] 24))
    have T3 := Lib.hid ((T1.out.ext b3).ext (below_new' w3 (.cells #[.int .u8 a, .int .u16 n] 24)))
    have M3 := Lib.hid ((M1.out.ext b3).alloc (.cells #[.int .u8 a, .int .u16 n] 24))
    have N3 : Hid (Blk (w3.alloc (.cells #[.int .u8 a, .int .u16 n] 24)) w3.heap.size 24 #[.int .u8 a, .int .u16 n]) := Blk.new _ _ _
    have p0 : (w3.alloc (.cells #[.int .u8 a, .int .u16 n] 24)).cell? ⟨w.heap.size, 0, none⟩ = some (.int .u8 pa) := K3.out.cell 0
    have p1 : (w3.alloc (.cells #[.int .u8 a, .int .u16 n] 24)).cell? ⟨w.heap.size, 1, none⟩ = some (.int .u16 ps) := K3.out.cell 1
    clear h3 b3 r3 ha' hn' B1 K1 T1 M1 R1
    go_wp2_with fail
    clear p0 p1
    generalize w3.alloc (.cells #[.int .u8 a, .int .u16 n] 24) = w4 at *
    generalize w3.heap.size = g3 at *
    refine (HX.out w4 T3.out).mono ?_
    rintro e w5 ⟨rfl, b5⟩
    have B5 := Lib.hid (B3.out.trans (b5.mono B3.out.size))
    have K5 := Lib.hid (K3.out.ext b5)
    have T5 := Lib.hid (T3.out.ext b5)
    have M5 := Lib.hid (M3.out.ext b5)
    have N5 := Lib.hid (N3.out.ext b5)
    clear b5 B3 K3 T3 M3 N3 HX
    go_wp2_with fail
    refine (parse_any _ w5 TL.out T5.out).mono ?_
    rintro e w6 h6
    obtain ⟨a', n', b', ha', hn', rfl, b6, r6⟩ := parse_form h6
    obtain ⟨rfl, rfl, rfl⟩ : pa = a' ∧ ps = n' ∧ true = b' := PR_uniq (.inl ⟨rfl, rfl⟩) r6 HA.out HN.out ha' hn'
    have B6 : Hid (Below w.heap.size w (w6.alloc (.cells #[.int .u8 pa, .int .u16 ps] 24))) := (B5.out.trans (b6.mono B5.out.size)).trans ((below_new' w6 _).mono (Nat.le_trans B5.out.size b6.size))
    have K6 := Lib.hid ((K5.out.ext b6).alloc (.cells #[.int .u8 pa, .int .u16 ps] 24))
    have T6 := Lib.hid ((T5.out.ext b6).ext (below_new' w6 (.cells #[.int .u8 pa, .int .u16 ps] 24)))
    have M6 := Lib.hid ((M5.out.ext b6).alloc (.cells #[.int .u8 pa, .int .u16 ps] 24))
    have N6 := Lib.hid ((N5.out.ext b6).alloc (.cells #[.int .u8 pa, .int .u16 ps] 24))
    have q0 : (w6.alloc (.cells #[.int .u8 pa, .int .u16 ps] 24)).cell? ⟨w.heap.size, 0, none⟩ = some (.int .u8 pa) := K6.out.cell 0
    have q1 : (w6.alloc (.cells #[.int .u8 pa, .int .u16 ps] 24)).cell? ⟨w.heap.size, 1, none⟩ = some (.int .u16 ps) := K6.out.cell 1
    have q2 : (w6.alloc (.cells #[.int .u8 pa, .int .u16 ps] 24)).cell? ⟨g1, 0, none⟩ = some (.int .u8 a) := M6.out.cell 0
    have q3 : (w6.alloc (.cells #[.int .u8 pa, .int .u16 ps] 24)).cell? ⟨g1, 1, none⟩ = some (.int .u16 n) := M6.out.cell 1
    have q4 : (w6.alloc (.cells #[.int .u8 pa, .int .u16 ps] 24)).cell? ⟨g3, 0, none⟩ = some (.int .u8 a) := N6.out.cell 0
    have q5 : (w6.alloc (.cells #[.int .u8 pa, .int .u16 ps] 24)).cell? ⟨g3, 1, none⟩ = some (.int .u16 n) := N6.out.cell 1
    have bb : (b == b) = true := by simp
    have H9 := Lib.hid (works10 _ T6.out.tab)
    clear h6 b6 r6 ha' hn' B5 K5 T5 M5 N5 K6 M6 N6 HA HN HA1 HN1 TL
    go_wp2_with fail
    refine H9.out.mono ?_
    rintro e w7 ⟨rfl, b7⟩
    have B7 := Lib.hid (B6.out.trans (b7.mono B6.out.size))
    clear b7 q0 q1 q2 q3 q4 q5 H9 T6 B6
    go_wp2
    go_ret
    exact ⟨rfl, B7.out⟩
  · have d0 : decide ((40 : Int) < (s.size : Int)) = true := decide_eq_true (by omega)
    have d0' : decide (40 < s.size) = true := decide_eq_true (by omega)
    have H9 := Lib.hid (works10 _ T0.out.tab)
    clear hT
    go_enter Tryd.func3, Tryd.ntmps3
    go_wp2_with fail
    refine H9.out.mono ?_
    rintro e w1 ⟨rfl, b1⟩
    have B1 := Lib.hid (B0.out.trans (b1.mono B0.out.size))
    clear b1 B0 H9
    go_wp2
    go_ret
    exact ⟨rfl, B1.out⟩
end Go.Proofs.YtmfdggolnfoniaaDoor
