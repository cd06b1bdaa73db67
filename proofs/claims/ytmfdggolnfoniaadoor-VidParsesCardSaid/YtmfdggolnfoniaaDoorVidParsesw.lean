/- Names of vertices read from texts: the statement walked. -/
import Derived.Test.YtmfdggolnfoniaaDoorVidh
namespace Go.Proofs.YtmfdggolnfoniaaDoor
open Go.RowKit

def VR (s : List UInt8) (a n m : Nat) (b : Bool) : Prop := (b = true ∧ s = vidText a n m) ∨ (b = false ∧ a = 0 ∧ n = 0 ∧ m = 0 ∧ ∀ a n m : Nat, a < 256 → n < 65536 → m < 256 → s ≠ vidText a n m)
theorem vparse_form {s : List UInt8} {w w' : World} {e : Ending} (h : VRet s w e w') : ∃ (a n m : Nat) (b : Bool), a < 256 ∧ n < 65536 ∧ m < 256 ∧ e = .returned (.tuple #[.agg #[.int .u8 a, .int .u16 n, .int .u8 m], .bool b]) ∧ Below w.heap.size w w' ∧ VR s a n m b := by
  obtain ⟨hb, ⟨a, n, m, ha, hn, hm, hs, he⟩ | ⟨hs, he⟩⟩ := h
  · exact ⟨a, n, m, true, ha, hn, hm, he, hb, .inl ⟨rfl, hs⟩⟩
  · exact ⟨0, 0, 0, false, by omega, by omega, by omega, he, hb, .inr ⟨rfl, rfl, rfl, rfl, hs⟩⟩
theorem VR_uniq {s : List UInt8} {a n m a' n' m' : Nat} {b b' : Bool} (h : VR s a n m b) (h' : VR s a' n' m' b') (ha : a < 256) (hn : n < 65536) (hm : m < 256) (ha' : a' < 256) (hn' : n' < 65536) (hm' : m' < 256) : a = a' ∧ n = n' ∧ m = m' ∧ b = b' := by
  rcases h with ⟨rfl, rfl⟩ | ⟨rfl, rfl, rfl, rfl, h⟩
  · rcases h' with ⟨rfl, h'⟩ | ⟨rfl, rfl, rfl, rfl, h'⟩
    · obtain ⟨rfl, rfl, rfl⟩ := vidText_inj h'
      exact ⟨rfl, rfl, rfl, rfl⟩
    · exact absurd rfl (h' a n m ha hn hm)
  · rcases h' with ⟨rfl, h'⟩ | ⟨rfl, rfl, rfl, rfl, h'⟩
    · exact absurd h' (h a' n' m' ha' hn' hm')
    · exact ⟨rfl, rfl, rfl, rfl⟩
theorem vidText_len {a n m : Nat} (ha : a < 256) (hn : n < 65536) (hm : m < 256) : (vidText a n m).length ≤ 80 := by
  unfold vidText
  have h1 := pidText_le ha hn
  have h2 := itoa_len m (by omega)
  simp only [List.length_append, List.length_cons]
  omega

set_option maxRecDepth 100000 in
set_option maxHeartbeats 4000000 in
theorem vidParses_main (s : ByteArray) (hs : s.size ≤ maxLen) (pa ps pn : Nat) (ha : pa < 256) (hps : ps < 65536) (hpn : pn < 256) (w : World) (hT : PW w) :
    Calls Tryd.prog 5 #[.string s, .agg #[.int .u8 pa, .int .u16 ps, .int .u8 pn]] w (RetB w (.bool true)) := by
  unfold maxLen at hs
  have B0 : Hid (Below w.heap.size w (w.alloc (.cells #[.int .u8 pa, .int .u16 ps, .int .u8 pn] 36))) := below_new' _ _
  have T0 := Lib.hid (hT.ext B0.out)
  have K0 : Hid (Blk (w.alloc (.cells #[.int .u8 pa, .int .u16 ps, .int .u8 pn] 36)) w.heap.size 36 #[.int .u8 pa, .int .u16 ps, .int .u8 pn]) := Blk.new _ _ _
  by_cases h40 : s.size ≤ 40
  · have d0 : decide ((40 : Int) < (s.size : Int)) = false := decide_eq_false (by omega)
    have d0' : decide (40 < s.size) = false := decide_eq_false (by omega)
    have HX := Lib.hid (fun w0 (h : PW w0) => vtext_any pa ps pn ha hps hpn w0 h.tab)
    have TL : Hid ((⟨(vidText pa ps pn).toArray⟩ : ByteArray).size ≤ 100) := by
      show (vidText pa ps pn).toArray.size ≤ 100
      have := vidText_len ha hps hpn
      rw [List.size_toArray]; omega
    have HA := Lib.hid ha
    have HN := Lib.hid hps
    have HM := Lib.hid hpn
    clear hT ha hps hpn
    go_enter Tryd.func5, Tryd.ntmps5
    go_wp2_with fail
    generalize w.alloc (.cells #[.int .u8 pa, .int .u16 ps, .int .u8 pn] 36) = w0 at *
    refine (vparse_any s w0 (by omega) T0.out).mono ?_
    rintro e w1 h1
    obtain ⟨a, n, m, b, ha, hn, hm, rfl, b1, r1⟩ := vparse_form h1
    have B1 : Hid (Below w.heap.size w (w1.alloc (.cells #[.int .u8 a, .int .u16 n, .int .u8 m] 36))) := (B0.out.trans (b1.mono B0.out.size)).trans ((below_new' w1 _).mono (Nat.le_trans B0.out.size b1.size))
    have K1 := Lib.hid ((K0.out.ext b1).alloc (.cells #[.int .u8 a, .int .u16 n, .int .u8 m] 36))
    have T1 := Lib.hid ((T0.out.ext b1).ext (below_new' w1 (.cells #[.int .u8 a, .int .u16 n, .int .u8 m] 36)))
    have M1 : Hid (Blk (w1.alloc (.cells #[.int .u8 a, .int .u16 n, .int .u8 m] 36)) w1.heap.size 36 #[.int .u8 a, .int .u16 n, .int .u8 m]) := Blk.new _ _ _
    have R1 := Lib.hid r1
    have HA1 := Lib.hid ha
    have HN1 := Lib.hid hn
    have HM1 := Lib.hid hm
    clear h1 b1 r1 ha hn hm B0 K0 T0
    go_wp2_with fail
    generalize w1.alloc (.cells #[.int .u8 a, .int .u16 n, .int .u8 m] 36) = w2 at *
    generalize w1.heap.size = g1 at *
    refine (rvparse_any s w2 (by omega)).mono ?_
    rintro e w3 h3
    obtain ⟨a', n', m', b', ha', hn', hm', rfl, b3, r3⟩ := vparse_form h3
    obtain ⟨rfl, rfl, rfl, rfl⟩ := VR_uniq R1.out r3 HA1.out HN1.out HM1.out ha' hn' hm'
    have B3 : Hid (Below w.heap.size w (w3.alloc (.cells #[.int .u8 a, .int .u16 n, .int .u8 m] 36))) := (B1.out.trans (b3.mono B1.out.size)).trans ((below_new' w3 _).mono (Nat.le_trans B1.out.size b3.size))
    have K3 := Lib.hid ((K1.out.ext b3).alloc (.cells #[.int .u8 a, .int .u16 n, .int .u8 m] 36))
    have T3 := Lib.hid ((T1.out.ext b3).ext (below_new' w3 (.cells #[.int .u8 a, .int .u16 n, .int .u8 m] 36)))
    have M3 := Lib.hid ((M1.out.ext b3).alloc (.cells #[.int .u8 a, .int .u16 n, .int .u8 m] 36))
    have N3 : Hid (Blk (w3.alloc (.cells #[.int .u8 a, .int .u16 n, .int .u8 m] 36)) w3.heap.size 36 #[.int .u8 a, .int .u16 n, .int .u8 m]) := Blk.new _ _ _
    have p0 : (w3.alloc (.cells #[.int .u8 a, .int .u16 n, .int .u8 m] 36)).cell? ⟨w.heap.size, 0, none⟩ = some (.int .u8 pa) := K3.out.cell 0
    have p1 : (w3.alloc (.cells #[.int .u8 a, .int .u16 n, .int .u8 m] 36)).cell? ⟨w.heap.size, 1, none⟩ = some (.int .u16 ps) := K3.out.cell 1
    have p2 : (w3.alloc (.cells #[.int .u8 a, .int .u16 n, .int .u8 m] 36)).cell? ⟨w.heap.size, 2, none⟩ = some (.int .u8 pn) := K3.out.cell 2
    clear h3 b3 r3 ha' hn' hm' B1 K1 T1 M1 R1
    go_wp2_with fail
    clear p0 p1 p2
    generalize w3.alloc (.cells #[.int .u8 a, .int .u16 n, .int .u8 m] 36) = w4 at *
    generalize w3.heap.size = g3 at *
    refine (HX.out w4 T3.out).mono ?_
    rintro e w5 ⟨rfl, b5⟩
    have B5 := Lib.hid (B3.out.trans (b5.mono B3.out.size))
    have K5 := Lib.hid (K3.out.ext b5)
    have T5 := Lib.hid (T3.out.ext b5)
    have M5 := Lib.hid (M3.out.ext b5)
    have N5 := Lib.hid (N3.out.ext b5)
    clear b5 B3 K3 T3 M3 N3 HX
    go_wp2_with fail
    refine (vparse_any _ w5 TL.out T5.out).mono ?_
    rintro e w6 h6
    obtain ⟨a', n', m', b', ha', hn', hm', rfl, b6, r6⟩ := vparse_form h6
    obtain ⟨rfl, rfl, rfl, rfl⟩ : pa = a' ∧ ps = n' ∧ pn = m' ∧ true = b' := VR_uniq (.inl ⟨rfl, rfl⟩) r6 HA.out HN.out HM.out ha' hn' hm'
    have B6 : Hid (Below w.heap.size w (w6.alloc (.cells #[.int .u8 pa, .int .u16 ps, .int .u8 pn] 36))) := (B5.out.trans (b6.mono B5.out.size)).trans ((below_new' w6 _).mono (Nat.le_trans B5.out.size b6.size))
    have K6 := Lib.hid ((K5.out.ext b6).alloc (.cells #[.int .u8 pa, .int .u16 ps, .int .u8 pn] 36))
    have T6 := Lib.hid ((T5.out.ext b6).ext (below_new' w6 (.cells #[.int .u8 pa, .int .u16 ps, .int .u8 pn] 36)))
    have M6 := Lib.hid ((M5.out.ext b6).alloc (.cells #[.int .u8 pa, .int .u16 ps, .int .u8 pn] 36))
    have N6 := Lib.hid ((N5.out.ext b6).alloc (.cells #[.int .u8 pa, .int .u16 ps, .int .u8 pn] 36))
    have q0 : (w6.alloc (.cells #[.int .u8 pa, .int .u16 ps, .int .u8 pn] 36)).cell? ⟨w.heap.size, 0, none⟩ = some (.int .u8 pa) := K6.out.cell 0
    have q1 : (w6.alloc (.cells #[.int .u8 pa, .int .u16 ps, .int .u8 pn] 36)).cell? ⟨w.heap.size, 1, none⟩ = some (.int .u16 ps) := K6.out.cell 1
    have q2 : (w6.alloc (.cells #[.int .u8 pa, .int .u16 ps, .int .u8 pn] 36)).cell? ⟨g1, 0, none⟩ = some (.int .u8 a) := M6.out.cell 0
    have q3 : (w6.alloc (.cells #[.int .u8 pa, .int .u16 ps, .int .u8 pn] 36)).cell? ⟨g1, 1, none⟩ = some (.int .u16 n) := M6.out.cell 1
    have q4 : (w6.alloc (.cells #[.int .u8 pa, .int .u16 ps, .int .u8 pn] 36)).cell? ⟨g3, 0, none⟩ = some (.int .u8 a) := N6.out.cell 0
    have q5 : (w6.alloc (.cells #[.int .u8 pa, .int .u16 ps, .int .u8 pn] 36)).cell? ⟨g3, 1, none⟩ = some (.int .u16 n) := N6.out.cell 1
    have q6 : (w6.alloc (.cells #[.int .u8 pa, .int .u16 ps, .int .u8 pn] 36)).cell? ⟨w.heap.size, 2, none⟩ = some (.int .u8 pn) := K6.out.cell 2
    have q7 : (w6.alloc (.cells #[.int .u8 pa, .int .u16 ps, .int .u8 pn] 36)).cell? ⟨g1, 2, none⟩ = some (.int .u8 m) := M6.out.cell 2
    have q8 : (w6.alloc (.cells #[.int .u8 pa, .int .u16 ps, .int .u8 pn] 36)).cell? ⟨g3, 2, none⟩ = some (.int .u8 m) := N6.out.cell 2
    have bb : (b == b) = true := by simp
    have H9 := Lib.hid (works11 _ T6.out)
    clear h6 b6 r6 ha' hn' hm' B5 K5 T5 M5 N5 K6 M6 N6 HA HN HM HA1 HN1 HM1 TL
    go_wp2_with fail
    refine H9.out.mono ?_
    rintro e w7 ⟨rfl, b7⟩
    have B7 := Lib.hid (B6.out.trans (b7.mono B6.out.size))
    clear b7 q0 q1 q2 q3 q4 q5 q6 q7 q8 H9 T6 B6
    go_wp2
    go_ret
    exact ⟨rfl, B7.out⟩
  · have d0 : decide ((40 : Int) < (s.size : Int)) = true := decide_eq_true (by omega)
    have d0' : decide (40 < s.size) = true := decide_eq_true (by omega)
    have H9 := Lib.hid (works11 _ T0.out)
    clear hT
    go_enter Tryd.func5, Tryd.ntmps5
    go_wp2_with fail
    refine H9.out.mono ?_
    rintro e w1 ⟨rfl, b1⟩
    have B1 := Lib.hid (B0.out.trans (b1.mono B0.out.size))
    clear b1 B0 H9
    go_wp2
    go_ret
    exact ⟨rfl, B1.out⟩
end Go.Proofs.YtmfdggolnfoniaaDoor
