/- The statement that it is as much as may be: walked. -/
import Derived.Test.YtlebhalaodmkhaaLcse
import Derived.BigQuiet
namespace Go.Proofs.Ytlebhalaodmkhaa
open Go.RowKit

theorem Sl.drewN {w : World} {B size n : Nat} {A : Option Addr} {xs : List Value} (h : Sl w B size A n xs) (k : Nat) : Sl (w.drewN k) B size A n xs := h

set_option maxRecDepth 100000 in
set_option maxHeartbeats 2000000 in
theorem lcsBest_core (w : World) (xs ys : List ByteArray) (A B : Option Addr) (ca cb : Nat) (ha : Sl w w.heap.size 1 A xs.length (xs.map Value.string)) (hb : Sl w w.heap.size 1 B ys.length (ys.map Value.string)) :
    Calls Try.prog 7 #[.slice A xs.length ca, .slice B ys.length cb] w (RetB w (.bool true)) := by
  have HA := Lib.hid ha
  have HB := Lib.hid hb
  have F1 := Lib.hid (few_any xs A ca w ha)
  have F2 := Lib.hid (few_any ys B cb w hb)
  have L1 : Hid (fewB xs = true → xs.length ≤ 40) := fewB_len
  have L2 : Hid (fewB ys = true → ys.length ≤ 40) := fewB_len
  clear ha hb
  generalize fewB xs = b1 at *
  generalize fewB ys = b2 at *
  cases b1
  · clear L1 L2 F2
    go_enter Try.func7, Try.ntmps7
    go_wp2_with fail
    refine F1.out.mono ?_
    rintro e w1 ⟨rfl, rfl⟩
    go_wp2_with (go_at_call 24; refine (works26 _).mono ?_; rintro e w2 ⟨rfl, hb⟩)
    go_ret
    exact ⟨rfl, hb⟩
  · cases b2
    · clear L1 L2
      go_enter Try.func7, Try.ntmps7
      go_wp2_with fail
      refine F1.out.mono ?_
      rintro e w1 ⟨rfl, rfl⟩
      go_wp2_with fail
      refine F2.out.mono ?_
      rintro e w1 ⟨rfl, rfl⟩
      go_wp2_with (go_at_call 24; refine (works26 _).mono ?_; rintro e w2 ⟨rfl, hb⟩)
      go_ret
      exact ⟨rfl, hb⟩
    · have l1 := L1.out rfl
      have l2 := L2.out rfl
      clear L1 L2
      have M1 := Lib.hid (fun w1 ha hb => match_any xs ys A B ca cb w1 ha hb (by omega) (by omega))
      have M2 := Lib.hid (fun w1 ha => match_any xs xs A A ca ca w1 ha ha (by omega) (by omega))
      have N1 := Lib.hid (fun w1 ha hb => length_any xs ys A B ca cb w1 ha hb (by omega) (by omega))
      have N2 := Lib.hid (fun w1 hb ha => length_any ys xs B A cb ca w1 hb ha (by omega) (by omega))
      have N3 := Lib.hid (fun w1 ha => length_any xs xs A A ca ca w1 ha ha (by omega) (by omega))
      have PL : Hid ((lcsM xs ys 0 0).length = lcsL xs ys) := lcsM_len xs ys 0 0
      have PS : Hid ((lcsM xs xs 0 0).length = xs.length) := (lcsM_len xs xs 0 0).trans (lcs_self xs)
      have PC : Hid (lcsL ys xs = lcsL xs ys) := lcs_comm ys xs
      have PX : Hid (lcsL xs xs = xs.length) := lcs_self xs
      have MM := Lib.hid (lcsM_mem xs ys 0 0)
      have MR := Lib.hid (lcsM_rise xs ys 0 0)
      have PB := lcsT_le xs ys 0 0
      have PB' : Hid ((lcsM xs ys 0 0).length ≤ 40) := by rw [Hid, lcsM_len]; omega
      rw [PC.out, ← PL.out] at N2
      rw [← PL.out] at N1
      rw [PX.out] at N3
      rw [PS.out] at M2
      have pb := PB'.out
      clear PL PS PC PX PB PB'
      go_enter Try.func7, Try.ntmps7
      go_wp2_with fail
      refine F1.out.mono ?_
      rintro e w1 ⟨rfl, rfl⟩
      go_wp2_with fail
      refine F2.out.mono ?_
      rintro e w1 ⟨rfl, rfl⟩
      clear F1 F2
      go_wp2_with fail
      refine (M1.out _ HA.out HB.out).mono ?_
      rintro e w1 ⟨A1, c1, rfl, hc1, hs1, hb1⟩
      generalize lcsM xs ys 0 0 = l at *
      have HA1 := Lib.hid ((HA.out.below hb1 (Nat.le_refl _)).more hb1.size)
      have HB1 := Lib.hid ((HB.out.below hb1 (Nat.le_refl _)).more hb1.size)
      clear HA HB M1
      have S1 := Lib.hid hs1
      have B1 := Lib.hid hb1
      clear hs1 hb1
      go_wp2_with fail
      go_loopw [6] (fun z wr => ∃ k j : Nat, k ≤ l.length ∧ z = .int .i64 k ∧ wr = w1.drewN j) (fun z _ => l.length - (intOf z).toNat)
      case atStart => exact ⟨0, 0, by omega, rfl, rfl⟩
      case round =>
        obtain ⟨k, j, hk, rfl, rfl⟩ := hrel
        by_cases hlt : k < l.length
        · obtain ⟨sp, op, rfl, hsp, p0, p1⟩ := at_pair S1.out hlt
          obtain ⟨_, _, hx1, hy1, hxy⟩ := MM.out l[k] (List.getElem_mem hlt)
          have RS : Hid (0 < k → ∃ x' y' : Nat, x' < l[k].1 ∧ y' < l[k].2 ∧ w1.cell? ⟨sp, op + (k - 1) * 2, none⟩ = some (.int .i64 (x' : Int)) ∧ w1.cell? ⟨sp, op + (k - 1) * 2 + 1, none⟩ = some (.int .i64 (y' : Int))) := by
            intro h0
            obtain ⟨sp', op', e', _, p0', p1'⟩ := at_pair S1.out (k := k - 1) (by omega)
            simp only [Option.some.injEq, Addr.mk.injEq, and_true] at e'
            obtain ⟨rfl, rfl⟩ := e'
            have := (List.pairwise_iff_getElem.1 MR.out) (k - 1) k (by omega) hlt (by omega)
            exact ⟨_, _, this.1, this.2, p0', p1'⟩
          generalize l[k].1 = x at *
          generalize l[k].2 = y at *
          obtain ⟨sa, oa, u, rfl, hsa, hu, hca⟩ := HA1.out.at_ hx1
          obtain ⟨sb, ob, u', rfl, hsb, hu', hcb⟩ := HB1.out.at_ hy1
          have ux : u = .string xs[x] := by rw [List.getElem?_map, List.getElem?_eq_getElem hx1] at hu; simpa using hu.symm
          have uy : u' = .string ys[y] := by rw [List.getElem?_map, List.getElem?_eq_getElem hy1] at hu'; simpa using hu'.symm
          subst ux uy
          rw [← hxy] at hcb
          generalize xs[x] = s at *
          clear hu hu' hxy
          have k0 : (0 : Int) ≤ (k : Int) := by omega
          have k1 : (k : Int) < (l.length : Int) := by omega
          have x0 : (0 : Int) ≤ (x : Int) := by omega
          have x1 : (x : Int) < (xs.length : Int) := by omega
          have y0 : (0 : Int) ≤ (y : Int) := by omega
          have y1 : (y : Int) < (ys.length : Int) := by omega
          by_cases h0 : 0 < k
          · obtain ⟨x', y', hx', hy', p0', p1'⟩ := RS.out h0
            obtain ⟨k', hk'⟩ : ∃ k', k = k' + 1 := ⟨k - 1, by omega⟩
            have ek : (k : Int) - 1 = (k' : Int) := by omega
            rw [show k - 1 = k' by omega] at p0' p1'
            have kk0 : (0 : Int) ≤ (k' : Int) := by omega
            have kk1 : (k' : Int) < (l.length : Int) := by omega
            have D1 : decide ((x : Int) < 0) = false := decide_eq_false (by omega)
            have D2 : decide (xs.length ≤ x) = false := decide_eq_false (by omega)
            have D3 : decide ((y : Int) < 0) = false := decide_eq_false (by omega)
            have D4 : decide (ys.length ≤ y) = false := decide_eq_false (by omega)
            have D5 : decide (0 < k) = true := decide_eq_true h0
            have D6 : decide (x ≤ x') = false := decide_eq_false (by omega)
            have D7 : decide (y ≤ y') = false := decide_eq_false (by omega)
            clear hk'
            go_wp2_with fail
            go_quiet (fail)
            go_wp2_with fail
            go_quiet (fail)
            go_wp2
            go_roundw
            case rel => exact ⟨k + 1, _, by omega, by go_num, by first | rfl | rw [World.drewN_drewN]⟩
            case measure => simp [intOf]; omega
          · have D1 : decide ((x : Int) < 0) = false := decide_eq_false (by omega)
            have D2 : decide (xs.length ≤ x) = false := decide_eq_false (by omega)
            have D3 : decide ((y : Int) < 0) = false := decide_eq_false (by omega)
            have D4 : decide (ys.length ≤ y) = false := decide_eq_false (by omega)
            have D5 : decide (0 < k) = false := decide_eq_false h0
            clear RS
            go_wp2_with fail
            go_quiet (fail)
            go_wp2_with fail
            go_quiet (fail)
            go_wp2
            go_roundw
            case rel => exact ⟨k + 1, _, by omega, by go_num, by first | rfl | rw [World.drewN_drewN]⟩
            case measure => simp [intOf]; omega
        · have hk' : k = l.length := by omega
          subst hk'
          go_wp2_with fail
          refine (N1.out _ (HA1.out.drewN _) (HB1.out.drewN _)).mono ?_
          rintro e w2 ⟨rfl, hb2⟩
          have HA2 := Lib.hid (((HA1.out.drewN j).below hb2 (Nat.le_refl _)).more hb2.size)
          have HB2 := Lib.hid (((HB1.out.drewN j).below hb2 (Nat.le_refl _)).more hb2.size)
          have B2 := Lib.hid (ext_trans (below_drewN B1.out j) hb2)
          clear hb2 HA1 HB1 B1 N1
          go_wp2_with fail
          refine (N2.out _ HB2.out HA2.out).mono ?_
          rintro e w3 ⟨rfl, hb3⟩
          have HA3 := Lib.hid ((HA2.out.below hb3 (Nat.le_refl _)).more hb3.size)
          have B3 := Lib.hid (ext_trans B2.out hb3)
          clear hb3 HA2 HB2 B2 N2
          go_wp2_with fail
          refine (N3.out _ HA3.out).mono ?_
          rintro e w4 ⟨rfl, hb4⟩
          have HA4 := Lib.hid ((HA3.out.below hb4 (Nat.le_refl _)).more hb4.size)
          have B4 := Lib.hid (ext_trans B3.out hb4)
          clear hb4 HA3 B3 N3
          go_wp2_with fail
          refine (M2.out _ HA4.out).mono ?_
          rintro e w5 ⟨A5, c5, rfl, hc5, hs5, hb5⟩
          have B5 := Lib.hid (ext_trans B4.out hb5)
          clear hb5 hs5 HA4 B4 M2
          go_wp2_with (go_at_call 24; refine (works26 _).mono ?_; rintro e w2 ⟨rfl, hb⟩)
          go_ret
          exact ⟨rfl, ext_trans B5.out hb⟩
end Go.Proofs.Ytlebhalaodmkhaa
