/- Lists of names of patches: are they the same, do they rise? -/
import Derived.Test.YtmfdggolnfoniaaDoorSetd
namespace Go.Proofs.YtmfdggolnfoniaaDoor
open Go.RowKit

theorem mixedS : Tryd.prog.follows .mixedOrders = true := by kernel_rfl
theorem take_eq_snoc {α : Type} {l m : List α} {k : Nat} {x : α} (h : l.take k = m.take k) (hl : l[k]? = some x) (hm : m[k]? = some x) : l.take (k + 1) = m.take (k + 1) := by
  obtain ⟨h1, e1⟩ := List.getElem?_eq_some_iff.1 hl
  obtain ⟨h2, e2⟩ := List.getElem?_eq_some_iff.1 hm
  rw [List.take_succ_eq_append_getElem h1, List.take_succ_eq_append_getElem h2, h, e1, e2]
set_option maxRecDepth 100000 in
set_option maxHeartbeats 1000000 in
theorem rsameP (l m : List PidV) (w : World) (A A' : Option Addr) (n n' c c' : Nat) (h : PidsAt w A n l) (h' : PidsAt w A' n' m) (hm : n ≤ maxLen) :
    Calls Tryd.prog 14 #[.slice A n c, .slice A' n' c'] w (RetD w (.bool (decide (l = m)))) := by
  unfold maxLen at hm
  by_cases hne : n = n'
  · subst hne
    have H := Lib.hid h
    have H' := Lib.hid h'
    clear h h'
    go_enter Tryd.func14, Tryd.ntmps14
    go_wp2_with fail
    go_loopw [5] (fun i wr => ∃ k : Nat, k ≤ n ∧ i = .int .i64 k ∧ Hid (l.take k = m.take k) ∧ ∃ q, wr = w.drewN q) (fun i _ => n - (intOf i).toNat)
    case atStart => exact ⟨0, by omega, rfl, rfl, 0, rfl⟩
    case round =>
      obtain ⟨k, hk, rfl, T, q, rfl⟩ := hrel
      by_cases hlt : k < n
      · obtain ⟨b, o, x, rfl, hb, hx, R1⟩ := H.out.at_ hlt
        obtain ⟨b', o', y, rfl, hb', hy, R2⟩ := H'.out.at_ hlt
        have R1 := Lib.hid R1
        have R2 := Lib.hid R2
        have hlk : (k : Int) < (n : Int) := by omega
        have hk0 : (0 : Int) ≤ (k : Int) := by omega
        have NE := fun u => neqP x y u
        by_cases e : x = y
        · subst e
          have N := Lib.hid (take_eq_snoc T.out hx hy)
          have NE' : ∀ u : World, (binOp .neq 24 (.agg (encP x).toArray) (.agg (encP x).toArray)).run Tryd.prog u = .ok (.bool false) u := fun u => by rw [NE]; simp
          clear NE hx hy T
          go_wp2_with fail
          refine wp_region_quiet_lit (by kernel_rfl) (by kernel_rfl) ?_
          repeat (first | (refine wpQuiet_load_mid (rangeAt_drewN2 R1.out) underPid rfl infoPid rfl rfl ?_; simp only [List.set_cons_succ, List.set_cons_zero]) | (refine wpQuiet_load_mid (rangeAt_drewN2 R2.out) underPid rfl infoPid rfl rfl ?_; simp only [List.set_cons_succ, List.set_cons_zero]) | go_big_quiet_step (fail))
          refine wpQuiet_nil ?_
          rintro _ ⟨nq, rfl⟩
          go_wp2_with fail
          go_roundw
          case rel => exact ⟨k + 1, by omega, by go_num, N.out, ⟨_, rfl⟩⟩
          case measure => simp [intOf]; omega
        · have F : Hid (decide (l = m) = false) := decide_eq_false fun e2 => e (by rw [e2, hy] at hx; exact (Option.some.inj hx).symm)
          have NE' : ∀ u : World, (binOp .neq 24 (.agg (encP x).toArray) (.agg (encP y).toArray)).run Tryd.prog u = .ok (.bool true) u := fun u => by rw [NE, decide_eq_false e]; rfl
          clear NE hx hy T e
          go_wp2_with fail
          refine wp_region_quiet_lit (by kernel_rfl) (by kernel_rfl) ?_
          repeat (first | (refine wpQuiet_load_mid (rangeAt_drewN2 R1.out) underPid rfl infoPid rfl rfl ?_; simp only [List.set_cons_succ, List.set_cons_zero]) | (refine wpQuiet_load_mid (rangeAt_drewN2 R2.out) underPid rfl infoPid rfl rfl ?_; simp only [List.set_cons_succ, List.set_cons_zero]) | go_big_quiet_step (fail))
          refine wpQuiet_nil ?_
          rintro _ ⟨nq, rfl⟩
          go_wp2
          go_ret
          exact ⟨ret_bool F.out.symm, _, World.drewN_drewN _ _ _⟩
      · have F : Hid (decide (l = m) = true) := by
          have e := T.out
          rw [List.take_of_length_le (by rw [H.out.len]; omega), List.take_of_length_le (by rw [H'.out.len]; omega)] at e
          exact decide_eq_true e
        clear T
        go_wp2
        go_ret
        exact ⟨ret_bool F.out.symm, q, rfl⟩
  · have F : Hid (decide (l = m) = false) := decide_eq_false fun e => hne (by rw [← h.len, ← h'.len, e])
    clear h h'
    have d1 : ((n : Int) != (n' : Int)) = true := bne_iff_ne.2 (by omega)
    go_enter Tryd.func14, Tryd.ntmps14
    go_wp2
    go_ret
    exact ⟨ret_bool F.out.symm, 0, rfl⟩
theorem ext_cmp {w0 : World} {z : Ext w0} (x y : PidV) : Calls Tryd.prog 46 #[.agg (encP x).toArray, .agg (encP y).toArray] z.w fun e w'' => e = .returned (.int .i64 (signV (keyP x) (keyP y))) ∧ ∃ z' : Ext w0, w'' = z'.w := ext_call (rcmpP x y _)
set_option maxRecDepth 100000 in
set_option maxHeartbeats 1000000 in
theorem rrisesP (l : List PidV) (w : World) (A : Option Addr) (n c : Nat) (h : PidsAt w A n l) (hm : n ≤ maxLen) :
    Calls Tryd.prog 17 #[.slice A n c] w (fun e w' => ∃ t, e = .returned (.bool t) ∧ (t = true ↔ RiseK keyP l) ∧ Below w.heap.size w w') := by
  unfold maxLen at hm
  have H := Lib.hid h
  clear h
  go_enter Tryd.func17, Tryd.ntmps17
  go_wp2_with fail
  go_loopw [3] (fun i wr => ∃ k : Nat, 1 ≤ k ∧ (k ≤ n ∨ k = 1) ∧ i = .int .i64 k ∧ Hid (RiseK keyP (l.take k)) ∧ Hid (Below w.heap.size w wr)) (fun i _ => n - (intOf i).toNat)
  case atStart => 
    refine ⟨1, by omega, by omega, rfl, ?_, Below.refl _ _⟩
    show RiseK keyP (l.take 1)
    cases l <;> simp [RiseK]
  case round =>
    obtain ⟨k, hk1, hk, rfl, T, B⟩ := hrel
    by_cases hlt : k < n
    · obtain ⟨b, o, x, rfl, hb, hx, R1⟩ := H.out.at_ (k := k - 1) (by omega)
      obtain ⟨b', o', y, e, hb', hy, R2⟩ := H.out.at_ hlt
      obtain ⟨rfl, rfl⟩ : b = b' ∧ o = o' := by injection e with e; injection e with e1 e2; exact ⟨e1, e2⟩
      clear e hb'
      have hbr : b < wr.heap.size := Nat.lt_of_lt_of_le hb B.out.size
      have R1 := Lib.hid (rangeAt_below R1 B.out hb)
      have R2 := Lib.hid (rangeAt_below R2 B.out hb)
      have hlk : (k : Int) < (n : Int) := by omega
      have hk0 : (0 : Int) ≤ (k : Int) := by omega
      have hp : ((k - 1 : Nat) : Int) = (k : Int) - 1 := by omega
      have hp2 : ((k : Int) - 1).toNat = k - 1 := by omega
      have hp3 : (0 : Int) ≤ (k : Int) - 1 := by omega
      have hp4 : (k : Int) - 1 < (n : Int) := by omega
      have wr1 : IntKind.i64.wrap ((k : Int) - 1) = (k : Int) - 1 := IntWalk.i64_in _ (by omega)
      have CM := Lib.hid (fun z : Ext wr => ext_cmp (z := z) x y)
      by_cases hxy : keyP x < keyP y
      · have N := Lib.hid (rise_snoc (by omega) T.out hx hy hxy)
        have hs : signV (keyP x) (keyP y) = -1 := signV_lt hxy
        rw [hs] at CM
        clear hx hy T hxy hs hp hp2
        go_wp2_with fail
        refine wp_region_ext mixedS (by kernel_rfl) ?_
        repeat (first | (refine wpQuiet_load_mid (rangeAt_ext R1.out hbr) underPid rfl infoPid rfl rfl ?_; simp only [List.set_cons_succ, List.set_cons_zero]) | (refine wpQuiet_load_mid (rangeAt_ext R2.out hbr) underPid rfl infoPid rfl rfl ?_; simp only [List.set_cons_succ, List.set_cons_zero]) | go_big_quiet_step ((go_at_call 46; exact CM.out _)))
        refine wpQuiet_nil ?_
        rintro _ ⟨z, rfl⟩
        have B2 := Lib.hid (B.out.trans (z.h.mono B.out.size))
        go_wp2_with fail
        go_roundw
        case rel => exact ⟨k + 1, by omega, by omega, by go_num, N.out, B2.out⟩
        case measure => simp [intOf]; omega
      · have F := Lib.hid (show ¬ RiseK keyP l from fun h => hxy (rise_adj h (by omega) hx hy))
        have hs : (decide (0 ≤ signV (keyP x) (keyP y))) = true := decide_eq_true (by unfold signV; rw [if_neg hxy]; split <;> omega)
        generalize signV (keyP x) (keyP y) = sg at *
        clear hx hy T hxy hp hp2
        go_wp2_with fail
        refine wp_region_ext mixedS (by kernel_rfl) ?_
        repeat (first | (refine wpQuiet_load_mid (rangeAt_ext R1.out hbr) underPid rfl infoPid rfl rfl ?_; simp only [List.set_cons_succ, List.set_cons_zero]) | (refine wpQuiet_load_mid (rangeAt_ext R2.out hbr) underPid rfl infoPid rfl rfl ?_; simp only [List.set_cons_succ, List.set_cons_zero]) | go_big_quiet_step ((go_at_call 46; exact CM.out _)))
        refine wpQuiet_nil ?_
        rintro _ ⟨z, rfl⟩
        have B2 := Lib.hid (B.out.trans (z.h.mono B.out.size))
        go_wp2
        go_ret
        exact ⟨false, rfl, ⟨fun h => (Bool.false_ne_true h).elim, fun h => (F.out h).elim⟩, B2.out⟩
    · have F := Lib.hid (show RiseK keyP l by
        have := T.out
        rwa [List.take_of_length_le (by rw [H.out.len]; omega)] at this)
      clear T
      go_wp2
      go_ret
      exact ⟨true, rfl, ⟨fun _ => F.out, fun _ => rfl⟩, B.out⟩
end Go.Proofs.YtmfdggolnfoniaaDoor
