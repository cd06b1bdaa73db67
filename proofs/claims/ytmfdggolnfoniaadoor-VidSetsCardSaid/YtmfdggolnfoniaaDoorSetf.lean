/- Lists of names of patches: do they rise? -/
import Derived.Test.YtmfdggolnfoniaaDoorSete
namespace Go.Proofs.YtmfdggolnfoniaaDoor
open Go.RowKit

theorem ext_pcmp {w0 : World} {z : Ext w0} (x y : PidV) : Calls Tryd.prog 44 #[.agg (encP x).toArray, .agg (encP y).toArray] z.w fun e w'' => e = .returned (.int .i64 (signV (keyP x) (keyP y))) ∧ ∃ z' : Ext w0, w'' = z'.w := ext_call (cmpP x y _)
set_option maxRecDepth 100000 in
set_option maxHeartbeats 1000000 in
theorem prisesP (l : List PidV) (w : World) (A : Option Addr) (n c : Nat) (h : PidsAt w A n l) (hm : n ≤ maxLen) :
    Calls Tryd.prog 16 #[.slice A n c] w (fun e w' => ∃ t, e = .returned (.bool t) ∧ (t = true ↔ RiseK keyP l) ∧ Below w.heap.size w w') := by
  unfold maxLen at hm
  have H := Lib.hid h
  clear h
  go_enter Tryd.func16, Tryd.ntmps16
  go_wp2_with fail
  go_loopw [7] (fun i wr => ∃ k : Nat, k ≤ n ∧ i = .int .i64 k ∧ Hid (RiseK keyP (l.take k)) ∧ Hid (Below w.heap.size w wr)) (fun i _ => n - (intOf i).toNat)
  case atStart => exact ⟨0, by omega, rfl, List.Pairwise.nil, Below.refl _ _⟩
  case round =>
    obtain ⟨k, hk, rfl, T, B⟩ := hrel
    by_cases hlt : k < n
    · obtain ⟨b, o, y, rfl, hb, hy, R2⟩ := H.out.at_ hlt
      have hbr : b < wr.heap.size := Nat.lt_of_lt_of_le hb B.out.size
      have R2 := rangeAt_below R2 B.out hb
      have c0 : wr.cell? ⟨b, o + k * 2, none⟩ = some (.int .u8 ((y.1.val : Nat) : Int)) := R2 0 _ rfl
      have c1 : wr.cell? ⟨b, o + k * 2 + 1, none⟩ = some (.int .u16 ((y.2.val : Nat) : Int)) := R2 1 _ rfl
      have hlk : (k : Int) < (n : Int) := by omega
      have hk0 : (0 : Int) ≤ (k : Int) := by omega
      have K0 : Hid (Blk (wr.alloc (.cells #[.int .u8 ((y.1.val : Nat) : Int), .int .u16 ((y.2.val : Nat) : Int)] 24)) wr.heap.size 24 (encP y).toArray) := Blk.new _ _ _
      have B0 : Hid (Below w.heap.size w (wr.alloc (.cells #[.int .u8 ((y.1.val : Nat) : Int), .int .u16 ((y.2.val : Nat) : Int)] 24))) := B.out.trans ((below_new wr _).mono B.out.size)
      clear R2
      by_cases hk1 : 0 < k
      · have d0 : decide (0 < k) = true := decide_eq_true hk1
        obtain ⟨b', o', x, e, hb', hx, R1⟩ := H.out.at_ (k := k - 1) (by omega)
        obtain ⟨rfl, rfl⟩ : b = b' ∧ o = o' := by injection e with e; injection e with e1 e2; exact ⟨e1, e2⟩
        clear e hb'
        have R1 := Lib.hid (rangeAt_below (rangeAt_below R1 B.out hb) (below_new wr (.cells #[.int .u8 ((y.1.val : Nat) : Int), .int .u16 ((y.2.val : Nat) : Int)] 24)) hbr)
        have hp : ((k - 1 : Nat) : Int) = (k : Int) - 1 := by omega
        have hp2 : ((k : Int) - 1).toNat = k - 1 := by omega
        have hp3 : (0 : Int) ≤ (k : Int) - 1 := by omega
        have hp4 : (k : Int) - 1 < (n : Int) := by omega
        have wr1 : IntKind.i64.wrap ((k : Int) - 1) = (k : Int) - 1 := IntWalk.i64_in _ (by omega)
        have hbr2 : b < (wr.alloc (.cells #[.int .u8 ((y.1.val : Nat) : Int), .int .u16 ((y.2.val : Nat) : Int)] 24)).heap.size := Nat.lt_of_lt_of_le hbr (below_new wr _).size
        have CM := Lib.hid (fun z : Ext (wr.alloc (.cells #[.int .u8 ((y.1.val : Nat) : Int), .int .u16 ((y.2.val : Nat) : Int)] 24)) => ext_pcmp (z := z) x y)
        by_cases hxy : keyP x < keyP y
        · have N := Lib.hid (rise_snoc (by omega) T.out hx hy hxy)
          have hs : signV (keyP x) (keyP y) = -1 := signV_lt hxy
          rw [hs] at CM
          clear hx hy T hxy hs hp hp2
          go_wp2_with fail
          generalize wr.alloc (.cells #[.int .u8 ((y.1.val : Nat) : Int), .int .u16 ((y.2.val : Nat) : Int)] 24) = w1 at *
          refine wp_region_ext mixedS (by kernel_rfl) ?_
          repeat (first | (refine wpQuiet_load_mid (rangeAt_ext R1.out hbr2) underPid rfl infoPid rfl rfl ?_; simp only [List.set_cons_succ, List.set_cons_zero]) | (refine wpQuiet_load_row K0.out underPid rfl infoPid rfl rfl ?_; simp only [List.set_cons_succ, List.set_cons_zero]) | go_big_quiet_step ((go_at_call 44; exact CM.out _)))
          refine wpQuiet_nil ?_
          rintro _ ⟨z, rfl⟩
          have B2 := Lib.hid (B0.out.trans (z.h.mono B0.out.size))
          go_wp2_with fail
          go_roundw
          case rel => exact ⟨k + 1, by omega, by go_num, N.out, B2.out⟩
          case measure => simp [intOf]; omega
        · have F := Lib.hid (show ¬ RiseK keyP l from fun h => hxy (rise_adj h (by omega) hx hy))
          have hs : (decide (0 ≤ signV (keyP x) (keyP y))) = true := decide_eq_true (by unfold signV; rw [if_neg hxy]; split <;> omega)
          generalize signV (keyP x) (keyP y) = sg at *
          clear hx hy T hxy hp hp2
          go_wp2_with fail
          generalize wr.alloc (.cells #[.int .u8 ((y.1.val : Nat) : Int), .int .u16 ((y.2.val : Nat) : Int)] 24) = w1 at *
          refine wp_region_ext mixedS (by kernel_rfl) ?_
          repeat (first | (refine wpQuiet_load_mid (rangeAt_ext R1.out hbr2) underPid rfl infoPid rfl rfl ?_; simp only [List.set_cons_succ, List.set_cons_zero]) | (refine wpQuiet_load_row K0.out underPid rfl infoPid rfl rfl ?_; simp only [List.set_cons_succ, List.set_cons_zero]) | go_big_quiet_step ((go_at_call 44; exact CM.out _)))
          refine wpQuiet_nil ?_
          rintro _ ⟨z, rfl⟩
          have B2 := Lib.hid (B0.out.trans (z.h.mono B0.out.size))
          go_wp2
          go_ret
          exact ⟨false, rfl, ⟨fun h => (Bool.false_ne_true h).elim, fun h => (F.out h).elim⟩, B2.out⟩
      · have d0 : decide (0 < k) = false := decide_eq_false hk1
        have N := Lib.hid (show RiseK keyP (l.take (k + 1)) by
          have : k = 0 := by omega
          subst this
          cases l <;> simp [RiseK])
        clear hy T
        go_wp2_with fail
        refine wp_region_quiet_lit (by kernel_rfl) (by kernel_rfl) ?_
        repeat (first | go_big_quiet_skip | go_big_quiet_step (fail))
        refine wpQuiet_nil ?_
        rintro _ ⟨nq, rfl⟩
        have B1 := Lib.hid (below_drewN B0.out nq)
        go_wp2_with fail
        go_roundw
        case rel => exact ⟨k + 1, by omega, by go_num, N.out, B1.out⟩
        case measure => simp [intOf]; omega
    · have F := Lib.hid (show RiseK keyP l by
        have := T.out
        rwa [List.take_of_length_le (by rw [H.out.len]; omega)] at this)
      clear T
      go_wp2
      go_ret
      exact ⟨true, rfl, ⟨fun _ => F.out, fun _ => rfl⟩, B.out⟩
end Go.Proofs.YtmfdggolnfoniaaDoor
