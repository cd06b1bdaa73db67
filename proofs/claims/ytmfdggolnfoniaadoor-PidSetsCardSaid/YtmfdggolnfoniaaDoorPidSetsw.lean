/- Sets of names of patches: the statement walked. -/
import Derived.Test.YtmfdggolnfoniaaDoorSetk
import Derived.Test.YtmfdggolnfoniaaDoorPidx
namespace Go.Proofs.YtmfdggolnfoniaaDoor
open Go.RowKit

set_option maxRecDepth 100000 in
set_option maxHeartbeats 4000000 in
theorem pidSets_main (l : List PidV) (w : World) (A : Option Addr) (n c : Nat) (h : PidsAt w A n l) (hm : n ≤ maxLen) (hT : TabOk w) :
    Calls Tryd.prog 4 #[.slice A n c] w (RetB w (.bool true)) := by
  unfold maxLen at hm
  by_cases h60 : n ≤ 60
  · have d0 : decide ((60 : Int) < (n : Int)) = false := decide_eq_false (by omega)
    have d0' : decide (60 < n) = false := decide_eq_false (by omega)
    have hml : (setK keyP l).length ≤ 60 := by have := setK_len (key := keyP) l; rw [h.len] at this; omega
    have P0 := Lib.hid h
    have T0 := Lib.hid hT
    have HS := Lib.hid (setP l w A n c (by omega) h)
    have HR := Lib.hid (fun (w0 : World) (h0 : PidsAt w0 A n l) => rsetP l w0 A n c h0 (by omega))
    have R := Lib.hid (setK_rise keyP_inj l)
    have I := Lib.hid (setK_idem keyP_inj l)
    clear h hT
    generalize setK keyP l = S at *
    go_enter Tryd.func4, Tryd.ntmps4
    go_wp2_with fail
    refine HS.out.mono ?_
    rintro e w1 ⟨v, rfl, o1, b1⟩
    obtain ⟨A1, c1, rfl, hc1, p1⟩ := PidsAt.of_own o1 rfl
    have B1 := Lib.hid b1
    have P1 := Lib.hid p1
    have L1 := Lib.hid (P0.out.ext b1)
    clear o1 b1 p1 hc1 HS
    go_wp2_with fail
    refine (HR.out w1 L1.out).mono ?_
    rintro e w2 ⟨A2, c2, rfl, hc2, s2, b2⟩
    have P2 : Hid (PidsAt w2 A2 S.length S) := ⟨rfl, s2⟩
    have B2 := Lib.hid (B1.out.trans (b2.mono B1.out.size))
    have P1 := Lib.hid (P1.out.ext b2)
    have L2 := Lib.hid (L1.out.ext b2)
    clear s2 b2 hc2 L1 B1 HR
    go_wp2_with fail
    refine (rsameP S S w2 A1 A2 S.length S.length c1 c2 P1.out P2.out (by unfold maxLen; omega)).mono ?_
    rintro e w3 ⟨rfl, q, rfl⟩
    have b3 : Below w2.heap.size w2 (w2.drewN q) := below_drewN (Below.refl _ _) _
    have B3 := Lib.hid (B2.out.trans (b3.mono B2.out.size))
    have P3 := Lib.hid (P1.out.ext b3)
    have L3 := Lib.hid (L2.out.ext b3)
    have dS : decide (S = S) = true := decide_eq_true rfl
    rw [dS]
    clear b3 L2 P1 P2 B2 dS
    generalize w2.drewN q = w3 at *
    go_wp2_with fail
    refine (prisesP l w3 A n c L3.out (by unfold maxLen; omega)).mono ?_
    rintro e w4 ⟨t1, rfl, ht1, b4⟩
    have B4 := Lib.hid (B3.out.trans (b4.mono B3.out.size))
    have P4 := Lib.hid (P3.out.ext b4)
    have L4 := Lib.hid (L3.out.ext b4)
    have T1 := Lib.hid ht1
    clear b4 ht1 L3 P3 B3
    go_wp2_with fail
    refine (rrisesP l w4 A n c L4.out (by unfold maxLen; omega)).mono ?_
    rintro e w5 ⟨t2, rfl, ht2, b5⟩
    have B5 := Lib.hid (B4.out.trans (b5.mono B4.out.size))
    have P5 := Lib.hid (P4.out.ext b5)
    obtain rfl : t1 = t2 := by
      have h1 := T1.out
      cases t1 <;> cases t2 <;> simp_all
    have tt : (t1 == t1) = true := by simp
    clear b5 ht2 L4 P4 B4 T1
    go_wp2_with fail
    refine (prisesP S w5 A1 S.length c1 P5.out (by unfold maxLen; omega)).mono ?_
    rintro e w6 ⟨t3, rfl, ht3, b6⟩
    obtain rfl : t3 = true := ht3.2 R.out
    have B6 := Lib.hid (B5.out.trans (b6.mono B5.out.size))
    have P6 := Lib.hid (P5.out.ext b6)
    clear b6 ht3 P5 B5
    go_wp2_with fail
    have HS2 := setP S w6 A1 S.length c1 (by omega) P6.out
    rw [I.out] at HS2
    refine HS2.mono ?_
    rintro e w7 ⟨v, rfl, o7, b7⟩
    obtain ⟨A3, c3, rfl, hc3, p7⟩ := PidsAt.of_own o7 rfl
    have B7 := Lib.hid (B6.out.trans (b7.mono B6.out.size))
    have P7 := Lib.hid (P6.out.ext b7)
    have Q7 := Lib.hid p7
    clear b7 P6 B6 HS2 o7 p7 hc3
    go_wp2_with fail
    refine (rsameP S S w7 A3 A1 S.length S.length c3 c1 Q7.out P7.out (by unfold maxLen; omega)).mono ?_
    rintro e w8 ⟨rfl, q, rfl⟩
    have B8 : Hid (Below w.heap.size w (w7.drewN q)) := below_drewN B7.out _
    have dS : decide (S = S) = true := decide_eq_true rfl
    rw [dS]
    have T8 := Lib.hid (tab_ext T0.out B8.out)
    clear P7 Q7 B7 dS
    generalize w7.drewN q = w8 at *
    go_wp2_with fail
    refine (works10 w8 T8.out).mono ?_
    rintro e w9 ⟨rfl, b9⟩
    have B9 := Lib.hid (B8.out.trans (b9.mono B8.out.size))
    clear b9 B8 T8
    go_wp2
    go_ret
    exact ⟨rfl, B9.out⟩
  · have d0 : decide ((60 : Int) < (n : Int)) = true := decide_eq_true (by omega)
    have d0' : decide (60 < n) = true := decide_eq_true (by omega)
    have H9 := Lib.hid (works10 w hT)
    clear h hT
    go_enter Tryd.func4, Tryd.ntmps4
    go_wp2_with fail
    refine H9.out.mono ?_
    rintro e w1 ⟨rfl, b1⟩
    go_wp2
    go_ret
    exact ⟨rfl, b1⟩
end Go.Proofs.YtmfdggolnfoniaaDoor
