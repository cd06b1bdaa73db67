/- The statement on what the document answers: walked. -/
import Derived.Test.YtlebhalaodmkhaaLcse
namespace Go.Proofs.Ytlebhalaodmkhaa
open Go.RowKit

set_option maxRecDepth 100000 in
set_option maxHeartbeats 2000000 in
theorem lcsSays_core (w : World) (xs ys : List ByteArray) (A B : Option Addr) (ca cb : Nat) (ha : Sl w w.heap.size 1 A xs.length (xs.map Value.string)) (hb : Sl w w.heap.size 1 B ys.length (ys.map Value.string)) :
    Calls Try.prog 6 #[.slice A xs.length ca, .slice B ys.length cb] w (RetB w (.bool true)) := by
  have HA := Lib.hid ha
  have HB := Lib.hid hb
  have F1 := Lib.hid (few_any xs A ca w ha)
  have F2 := Lib.hid (few_any ys B cb w hb)
  have L1 : Hid (fewB xs = true → xs.length ≤ 40) := fewB_len
  have L2 : Hid (fewB ys = true → ys.length ≤ 40) := fewB_len
  clear ha hb
  generalize fewB xs = b1 at *
  generalize fewB ys = b2 at *
  cases b1
  · clear L1 L2 F2
    go_enter Try.func6, Try.ntmps6
    go_wp2_with fail
    refine F1.out.mono ?_
    rintro e w1 ⟨rfl, rfl⟩
    go_wp2_with (go_at_call 24; refine (works26 _).mono ?_; rintro e w2 ⟨rfl, hb⟩)
    go_ret
    exact ⟨rfl, hb⟩
  · cases b2
    · clear L1 L2
      go_enter Try.func6, Try.ntmps6
      go_wp2_with fail
      refine F1.out.mono ?_
      rintro e w1 ⟨rfl, rfl⟩
      go_wp2_with fail
      refine F2.out.mono ?_
      rintro e w1 ⟨rfl, rfl⟩
      go_wp2_with (go_at_call 24; refine (works26 _).mono ?_; rintro e w2 ⟨rfl, hb⟩)
      go_ret
      exact ⟨rfl, hb⟩
    · have l1 := L1.out rfl
      have l2 := L2.out rfl
      clear L1 L2
      have M1 := Lib.hid (fun w1 ha hb => match_any xs ys A B ca cb w1 ha hb (by omega) (by omega))
      have M2 := Lib.hid (fun w1 ha hb => rmatch_any xs ys A B ca cb w1 ha hb (by omega) (by omega))
      have N1 := Lib.hid (fun w1 ha hb => length_any xs ys A B ca cb w1 ha hb (by omega) (by omega))
      have N2 := Lib.hid (fun w1 ha hb => rlength_any xs ys A B ca cb w1 ha hb (by omega) (by omega))
      have PL := Lib.hid (lcsM_len xs ys 0 0)
      have PB := lcsT_le xs ys 0 0
      rw [← PL.out] at PB
      have NE := neqPair
      clear PL
      go_enter Try.func6, Try.ntmps6
      go_wp2_with fail
      refine F1.out.mono ?_
      rintro e w1 ⟨rfl, rfl⟩
      go_wp2_with fail
      refine F2.out.mono ?_
      rintro e w1 ⟨rfl, rfl⟩
      clear F1 F2
      go_wp2_with fail
      refine (M1.out _ HA.out HB.out).mono ?_
      rintro e w1 ⟨A1, c1, rfl, hc1, hs1, hb1⟩
      generalize lcsM xs ys 0 0 = l at *
      have HA1 := Lib.hid ((HA.out.below hb1 (Nat.le_refl _)).more hb1.size)
      have HB1 := Lib.hid ((HB.out.below hb1 (Nat.le_refl _)).more hb1.size)
      clear HA HB M1
      have S1 := Lib.hid hs1
      have B1 := Lib.hid hb1
      clear hs1 hb1
      go_wp2_with fail
      refine (M2.out _ HA1.out HB1.out).mono ?_
      rintro e w2 ⟨A2, c2, rfl, hc2, hs2, hb2⟩
      have HA2 := Lib.hid ((HA1.out.below hb2 (Nat.le_refl _)).more hb2.size)
      have HB2 := Lib.hid ((HB1.out.below hb2 (Nat.le_refl _)).more hb2.size)
      have S2 := Lib.hid hs2
      have B2 := Lib.hid (ext_trans B1.out hb2)
      have S1' := Lib.hid ((S1.out.below hb2 (Nat.le_refl _)).more hb2.size)
      clear HA1 HB1 hs2 M2 B1 S1 hb2
      go_wp2_with fail
      refine (N1.out _ HA2.out HB2.out).mono ?_
      rintro e w3 ⟨rfl, hb3⟩
      have HA3 := Lib.hid ((HA2.out.below hb3 (Nat.le_refl _)).more hb3.size)
      have HB3 := Lib.hid ((HB2.out.below hb3 (Nat.le_refl _)).more hb3.size)
      have S1 := Lib.hid ((S1'.out.below hb3 (Nat.le_refl _)).more hb3.size)
      have S3 := Lib.hid ((S2.out.below hb3 (Nat.le_refl _)).more hb3.size)
      have B3 := Lib.hid (ext_trans B2.out hb3)
      clear HA2 HB2 S2 B2 hb3 N1 S1'
      go_wp2_with fail
      refine (N2.out _ HA3.out HB3.out).mono ?_
      rintro e w4 ⟨rfl, hb4⟩
      have S1' := Lib.hid ((S1.out.below hb4 (Nat.le_refl _)).more hb4.size)
      have S4 := Lib.hid ((S3.out.below hb4 (Nat.le_refl _)).more hb4.size)
      have B4 := Lib.hid (ext_trans B3.out hb4)
      clear HA3 HB3 S3 B3 hb4 N2 S1
      generalize lcsL xs ys = v at *
      go_wp2_with fail
      go_loopw [7] (fun z wr => ∃ k j : Nat, k ≤ l.length ∧ z = .int .i64 k ∧ wr = w4.drewN j) (fun z _ => l.length - (intOf z).toNat)
      case atStart => exact ⟨0, 0, by omega, rfl, rfl⟩
      case round =>
        obtain ⟨k, j, hk, rfl, rfl⟩ := hrel
        by_cases hlt : k < l.length
        · obtain ⟨sa, oa, rfl, hsa, p0, p1⟩ := at_pair S1'.out hlt
          obtain ⟨sb, ob, rfl, hsb, q0, q1⟩ := at_pair S4.out hlt
          obtain ⟨x, hx⟩ : ∃ x, x = l[k].1 := ⟨_, rfl⟩
          obtain ⟨y, hy⟩ : ∃ y, y = l[k].2 := ⟨_, rfl⟩
          rw [← hx] at p0 q0
          rw [← hy] at p1 q1
          clear hx hy
          have k0 : (0 : Int) ≤ (k : Int) := by omega
          have k1 : (k : Int) < (l.length : Int) := by omega
          go_wp2_with fail
          go_quiet (fail)
          go_wp2
          go_roundw
          case rel => exact ⟨k + 1, _, by omega, by go_num, by first | rfl | rw [World.drewN_drewN]⟩
          case measure => simp [intOf]; omega
        · have hk' : k = l.length := by omega
          subst hk'
          go_wp2_with (go_at_call 24; refine (works26 _).mono ?_; rintro e w2 ⟨rfl, hb⟩)
          go_ret
          exact ⟨rfl, ext_trans (below_drewN B4.out _) hb⟩
end Go.Proofs.Ytlebhalaodmkhaa
