/- Sets of names of vertices: the statement walked. -/
import Derived.Test.YtmfdggolnfoniaaDoorVsets
import Derived.Test.YtmfdggolnfoniaaDoorVidh
import Derived.Test.YtmfdggolnfoniaaDoorCutw
namespace Go.Proofs.YtmfdggolnfoniaaDoor
open Go.RowKit

theorem setV_turn (l : List VidV) (k : Nat) : setK keyV ((l.drop k ++ l.take k) ++ l.drop k) = setK keyV l :=
  setK_congr keyV_inj fun z => by
    have h : z ∈ l ↔ z ∈ l.take k ∨ z ∈ l.drop k := by rw [← List.mem_append, List.take_append_drop]
    rw [List.mem_append, List.mem_append, h]
    constructor
    · rintro ((h | h) | h)
      · exact .inr h
      · exact .inl h
      · exact .inr h
    · rintro (h | h)
      · exact .inl (.inr h)
      · exact .inr h
set_option maxRecDepth 100000 in
set_option maxHeartbeats 4000000 in
theorem vidSets_main (l : List VidV) (w : World) (A : Option Addr) (n c : Nat) (q : Nat) (hq : q < 256) (h : VidsAt w A n l) (hnc : n ≤ c) (hm : n ≤ maxLen) (hT : PW w) :
    Calls Tryd.prog 8 #[.slice A n c, .int .u8 q] w (RetB w (.bool true)) := by
  unfold maxLen at hm
  by_cases h60 : n ≤ 60
  · have d0 : decide ((60 : Int) < (n : Int)) = false := decide_eq_false (by omega)
    have d0' : decide (60 < n) = false := decide_eq_false (by omega)
    have L0 := Lib.hid h
    have T0 := Lib.hid hT
    have q0 : (0 : Int) ≤ (q : Int) := by omega
    clear h hT
    go_enter Tryd.func8, Tryd.ntmps8
    go_upto_region 4 with fail
    obtain ⟨m, hmq, hmn⟩ : ∃ m : Nat, (m : Int) = (q : Int) % ((n : Int) + 1) ∧ m ≤ n := ⟨q % (n + 1), by simp, by have := Nat.mod_lt q (show 0 < n + 1 by omega); omega⟩
    rw [← hmq]
    clear hmq
    have CL := fun u => run_slice_low vidSl (A := A) (n := n) (c := c) hmn u
    have CH := fun u => run_slice_high vidSl (A := A) (n := n) (c := c) (show m ≤ c by omega) u
    have SL := Lib.hid (Sl.cutLow (c := c) L0.out.sl L0.out.len encV_len hmn hnc)
    have SH := Lib.hid (Sl.cutHigh (c := c) L0.out.sl L0.out.len encV_len hmn)
    have X : Hid (setK keyV (((l.drop m) ++ (l.take m)) ++ (l.drop m)) = setK keyV l) := setV_turn l m
    have XL : Hid ((((l.drop m) ++ (l.take m)) ++ (l.drop m)).length = n - m + m + (n - m)) := by
      have := L0.out.len
      rw [Hid, List.length_append, List.length_append, List.length_drop, List.length_take]; omega
    refine wp_region_held (S := fun w' => Below w.heap.size w w') mixedT ?_
    have B1 : Hid (Below w.heap.size w w.drew) := (Below.refl _ _).drew
    change wpAnyH _ _ _ _ _ _ _ _ w.drew
    generalize w.drew = w1 at *
    simp only [List.size_toArray, List.length_cons, List.length_nil]
    refine take_move (i := 1) rfl (by kernel_rfl) (by kernel_rfl) (by kernel_rfl) (fun _ _ _ h => h) rfl rfl B1.out ?_
    simp only [Act.put, List.setIfInBounds_toArray, List.set_cons_zero, List.set_cons_succ]
    refine take_move (i := 2) rfl (by kernel_rfl) (by kernel_rfl) (by kernel_rfl) (fun _ _ _ h => h) rfl rfl B1.out ?_
    simp only [Act.put, List.setIfInBounds_toArray, List.set_cons_zero, List.set_cons_succ]
    refine take_slice (i := 3) rfl (by kernel_rfl) (by kernel_rfl) (by kernel_rfl) (fun _ _ _ h => h) rfl rfl rfl rfl rfl CL B1.out ?_
    simp only [Act.put, List.setIfInBounds_toArray, List.set_cons_zero, List.set_cons_succ]
    refine take_move (i := 5) rfl (by kernel_rfl) (by kernel_rfl) (by kernel_rfl) (fun _ _ _ h => h) rfl rfl B1.out ?_
    simp only [Act.put, List.setIfInBounds_toArray, List.set_cons_zero, List.set_cons_succ]
    refine take_move (i := 6) rfl (by kernel_rfl) (by kernel_rfl) (by kernel_rfl) (fun _ _ _ h => h) rfl rfl B1.out ?_
    simp only [Act.put, List.setIfInBounds_toArray, List.set_cons_zero, List.set_cons_succ]
    refine take_slice (i := 7) rfl (by kernel_rfl) (by kernel_rfl) (by kernel_rfl) (fun _ _ _ h => h) rfl rfl rfl rfl rfl CH B1.out ?_
    simp only [Act.put, List.setIfInBounds_toArray, List.set_cons_zero, List.set_cons_succ]
    refine take_move (i := 9) rfl (by kernel_rfl) (by kernel_rfl) (by kernel_rfl) (fun _ _ _ h => h) rfl rfl B1.out ?_
    simp only [Act.put, List.setIfInBounds_toArray, List.set_cons_zero, List.set_cons_succ]
    refine take_move (i := 10) rfl (by kernel_rfl) (by kernel_rfl) (by kernel_rfl) (fun _ _ _ h => h) rfl rfl B1.out ?_
    simp only [Act.put, List.setIfInBounds_toArray, List.set_cons_zero, List.set_cons_succ]
    refine take_slice (i := 11) rfl (by kernel_rfl) (by kernel_rfl) (by kernel_rfl) (fun _ _ _ h => h) rfl rfl rfl rfl rfl CL B1.out ?_
    simp only [Act.put, List.setIfInBounds_toArray, List.set_cons_zero, List.set_cons_succ]
    refine wpAnyH_all (rs := [0]) (by kernel_rfl) (by simp) ?_
    intro i hi
    obtain rfl := List.mem_singleton.1 hi
    refine wpOp_of rfl rfl (wp_built0 vidSl ?_)
    have B2 := Lib.hid (B1.out.alloc B1.out.size (.cells #[] 36))
    have O2 : Hid ((w1.alloc (.cells #[] 36)).ownsRow w.heap.size 36 3 (.slice (some ⟨w1.heap.size, 0, none⟩) 0 0) 0 []) :=
      ⟨rfl, .inr ⟨w1.heap.size, 0, #[], rfl, B1.out.size, heap_alloc_new w1 _, Nat.le_refl _, by simp, rfl, rfl⟩⟩
    refine ⟨B2.out, ?_⟩
    simp only [Act.put, List.setIfInBounds_toArray, List.set_cons_zero, List.set_cons_succ]
    generalize w1.alloc (.cells #[] 36) = w2 at *
    refine wpAnyH_all (rs := [4]) (by kernel_rfl) (by simp) ?_
    intro i hi
    obtain rfl := List.mem_singleton.1 hi
    refine wpOp_of rfl rfl (wp_cat vidSl O2.out (SL.out.below B2.out (Nat.le_refl _)) (encs_one encV_one _) B2.out.size (by omega) (by unfold maxLen; omega) rfl rfl ?_)
    intro v3 w3 o3 b3
    rw [Nat.zero_add, List.nil_append] at o3
    have O3 := Lib.hid o3
    have B3 := Lib.hid (B2.out.trans b3)
    clear o3 b3 B2 O2
    refine ⟨B3.out, ?_⟩
    simp only [Act.put, List.setIfInBounds_toArray, List.set_cons_zero, List.set_cons_succ]
    refine wpAnyH_all (rs := [8]) (by kernel_rfl) (by simp) ?_
    intro i hi
    obtain rfl := List.mem_singleton.1 hi
    refine wpOp_of rfl rfl (wp_cat vidSl O3.out (SH.out.below B3.out (Nat.le_refl _)) (encs_one encV_one _) B3.out.size (by omega) (by unfold maxLen; omega) rfl rfl ?_)
    intro v4 w4 o4 b4
    have O4 := Lib.hid o4
    have B4 := Lib.hid (B3.out.trans b4)
    clear o4 b4 B3 O3
    refine ⟨B4.out, ?_⟩
    simp only [Act.put, List.setIfInBounds_toArray, List.set_cons_zero, List.set_cons_succ]
    refine wpAnyH_all (rs := [12]) (by kernel_rfl) (by simp) ?_
    intro i hi
    obtain rfl := List.mem_singleton.1 hi
    refine wpOp_of rfl rfl (wp_cat vidSl O4.out (SL.out.below B4.out (Nat.le_refl _)) (encs_one encV_one _) B4.out.size (by omega) (by unfold maxLen; omega) rfl rfl ?_)
    intro v5 w5 o5 b5
    have B5 := Lib.hid (B4.out.trans b5)
    have O5 : Hid (w5.ownsRow w.heap.size 36 3 v5 (n - m + m + (n - m)) ((((l.drop m) ++ (l.take m)) ++ (l.drop m)).flatMap encV)) := by
      rw [Hid, List.flatMap_append, List.flatMap_append]; exact o5
    clear o5 b5 B4 O4
    refine ⟨B5.out, ?_⟩
    simp only [Act.put, List.setIfInBounds_toArray, List.set_cons_zero, List.set_cons_succ]
    refine wpAnyH_all (rs := [13]) (by kernel_rfl) (by simp) ?_
    intro i hi
    obtain rfl := List.mem_singleton.1 hi
    refine wpOp_of rfl rfl (wp_assigned rfl ?_)
    refine ⟨B5.out, ?_⟩
    simp only [Act.put, List.setIfInBounds_toArray, List.set_cons_zero, List.set_cons_succ]
    refine wpAnyH_done (by kernel_rfl) ?_ _
    obtain ⟨A6, c6, rfl, _, P6⟩ := VidsAt.of_own O5.out XL.out
    have P6 := Lib.hid P6
    have L5 := Lib.hid (L0.out.ext B5.out)
    have HTU := Lib.hid (fun (w0 : World) (h0 : VidsAt w0 A6 (n - m + m + (n - m)) (((l.drop m) ++ (l.take m)) ++ (l.drop m))) => vsetV _ w0 A6 _ c6 (by omega) h0)
    rw [X.out] at HTU
    have HSL := Lib.hid (fun (w0 : World) (h0 : VidsAt w0 A n l) => vsetV l w0 A n c (by omega) h0)
    have HRL := Lib.hid (fun (w0 : World) (h0 : VidsAt w0 A n l) => rsetV l w0 A n c h0 (by omega))
    have hml : (setK keyV l).length ≤ 60 := by have := setK_len (key := keyV) l; rw [L0.out.len] at this; omega
    clear CL CH SL SH X XL O5 B1
    generalize setK keyV l = T at *
    generalize (((l.drop m) ++ (l.take m)) ++ (l.drop m)) = LT at *
    generalize n - m + m + (n - m) = N at *
    go_wp2_with fail
    refine (HSL.out w5 L5.out).mono ?_
    rintro e w6 ⟨v, rfl, o6, b6⟩
    obtain ⟨A7, c7, rfl, _, p7⟩ := VidsAt.of_own o6 rfl
    have B6 := Lib.hid (B5.out.trans (b6.mono B5.out.size))
    have L6 := Lib.hid (L5.out.ext b6)
    have Q6 := Lib.hid (P6.out.ext b6)
    have P7 := Lib.hid p7
    clear o6 b6 p7 P6 L5 B5
    go_wp2_with fail
    refine (HRL.out w6 L6.out).mono ?_
    rintro e w7 ⟨A8, c8, rfl, _, s8, b7⟩
    have P8 : Hid (VidsAt w7 A8 T.length T) := ⟨rfl, s8⟩
    have B7 := Lib.hid (B6.out.trans (b7.mono B6.out.size))
    have L7 := Lib.hid (L6.out.ext b7)
    have Q7 := Lib.hid (Q6.out.ext b7)
    have P9 := Lib.hid (P7.out.ext b7)
    clear b7 s8 P7 L6 B6 Q6
    go_wp2_with fail
    refine (rsameV T T w7 A7 A8 T.length T.length c7 c8 P9.out P8.out (by unfold maxLen; omega)).mono ?_
    rintro e w8 ⟨rfl, q8, rfl⟩
    have b8 : Below w7.heap.size w7 (w7.drewN q8) := below_drewN (Below.refl _ _) _
    have B8 := Lib.hid (B7.out.trans (b8.mono B7.out.size))
    have L8 := Lib.hid (L7.out.ext b8)
    have Q8 := Lib.hid (Q7.out.ext b8)
    have dS : decide (T = T) = true := decide_eq_true rfl
    rw [dS]
    clear b8 P9 P8 L7 B7 Q7 dS
    generalize w7.drewN q8 = w8 at *
    go_wp2_with fail
    refine (HTU.out w8 Q8.out).mono ?_
    rintro e w9 ⟨v, rfl, o9, b9⟩
    obtain ⟨A10, c10, rfl, _, p10⟩ := VidsAt.of_own o9 rfl
    have B9 := Lib.hid (B8.out.trans (b9.mono B8.out.size))
    have L9 := Lib.hid (L8.out.ext b9)
    have P10 := Lib.hid p10
    clear o9 b9 p10 L8 B8 Q8
    go_wp2_with fail
    refine (HSL.out w9 L9.out).mono ?_
    rintro e w10 ⟨v, rfl, o11, b11⟩
    obtain ⟨A11, c11, rfl, _, p11⟩ := VidsAt.of_own o11 rfl
    have B10 := Lib.hid (B9.out.trans (b11.mono B9.out.size))
    have P12 := Lib.hid (P10.out.ext b11)
    have P11 := Lib.hid p11
    clear o11 b11 p11 L9 B9 P10
    go_wp2_with fail
    refine (rsameV T T w10 A10 A11 T.length T.length c10 c11 P12.out P11.out (by unfold maxLen; omega)).mono ?_
    rintro e w11 ⟨rfl, q9, rfl⟩
    have B11 : Hid (Below w.heap.size w (w10.drewN q9)) := below_drewN B10.out _
    have dS : decide (T = T) = true := decide_eq_true rfl
    rw [dS]
    have T8 := Lib.hid (T0.out.ext B11.out)
    clear P12 P11 B10 dS
    generalize w10.drewN q9 = w11 at *
    go_wp2_with fail
    refine (works11 w11 T8.out).mono ?_
    rintro e w12 ⟨rfl, b12⟩
    have B12 := Lib.hid (B11.out.trans (b12.mono B11.out.size))
    clear b12 B11 T8
    go_wp2
    go_ret
    exact ⟨rfl, B12.out⟩
  · have d0 : decide ((60 : Int) < (n : Int)) = true := decide_eq_true (by omega)
    have d0' : decide (60 < n) = true := decide_eq_true (by omega)
    have H9 := Lib.hid (works11 w hT)
    clear h hT
    go_enter Tryd.func8, Tryd.ntmps8
    go_wp2_with fail
    refine H9.out.mono ?_
    rintro e w1 ⟨rfl, b1⟩
    go_wp2
    go_ret
    exact ⟨rfl, b1⟩
end Go.Proofs.YtmfdggolnfoniaaDoor
