/- Lists of names of patches: are they the same, do they rise? -/
import Derived.Test.YtmfdggolnfoniaaSetd
namespace Go.Proofs.Ytmfdggolnfoniaa
open Go.RowKit

theorem mixedS : Try.prog.follows .mixedOrders = true := by kernel_rfl
theorem take_eq_snoc {α : Type} {l m : List α} {k : Nat} {x : α} (h : l.take k = m.take k) (hl : l[k]? = some x) (hm : m[k]? = some x) : l.take (k + 1) = m.take (k + 1) := by
  obtain ⟨h1, e1⟩ := List.getElem?_eq_some_iff.1 hl
  obtain ⟨h2, e2⟩ := List.getElem?_eq_some_iff.1 hm
  rw [List.take_succ_eq_append_getElem h1, List.take_succ_eq_append_getElem h2, h, e1, e2]
set_option maxRecDepth 100000 in
set_option maxHeartbeats 1000000 in
theorem rsameP (l m : List PidV) (w : World) (A A' : Option Addr) (n n' c c' : Nat) (h : PidsAt w A n l) (h' : PidsAt w A' n' m) (hm : n ≤ maxLen) :
    Calls Try.prog 20 #[.slice A n c, .slice A' n' c'] w (RetD w (.bool (decide (l = m)))) := by
  unfold maxLen at hm
  by_cases hne : n = n'
  · subst hne
    have H := Lib.hid h
    have H' := Lib.hid h'
    clear h h'
    go_enter Try.func20, Try.ntmps20
    go_wp2_with fail
    go_loopw [5] (fun i wr => ∃ k : Nat, k ≤ n ∧ i = .int .i64 k ∧ Hid (l.take k = m.take k) ∧ ∃ q, wr = w.drewN q) (fun i _ => n - (intOf i).toNat)
    case atStart => exact ⟨0, by omega, rfl, rfl, 0, rfl⟩
    case round =>
      obtain ⟨k, hk, rfl, T, q, rfl⟩ := hrel
      by_cases hlt : k < n
      · obtain ⟨b, o, x, rfl, hb, hx, R1⟩ := H.out.at_ hlt
        obtain ⟨b', o', y, rfl, hb', hy, R2⟩ := H'.out.at_ hlt
        have R1 := Lib.hid R1
        have R2 := Lib.hid R2
        have hlk : (k : Int) < (n : Int) := by omega
        have hk0 : (0 : Int) ≤ (k : Int) := by omega
        have NE := fun u => neqP x y u
        by_cases e : x = y
        · subst e
          have N := Lib.hid (take_eq_snoc T.out hx hy)
          have NE' : ∀ u : World, (binOp .neq 33 (.agg (encP x).toArray) (.agg (encP x).toArray)).run Try.prog u = .ok (.bool false) u := fun u => by rw [NE]; simp
          clear NE hx hy T
          go_wp2_with fail
          refine wp_region_quiet_lit (by kernel_rfl) (by kernel_rfl) ?_
          repeat (first | (refine wpQuiet_load_mid (rangeAt_drewN2 R1.out) underPid rfl infoPid rfl rfl ?_; simp only [List.set_cons_succ, List.set_cons_zero]) | (refine wpQuiet_load_mid (rangeAt_drewN2 R2.out) underPid rfl infoPid rfl rfl ?_; simp only [List.set_cons_succ, List.set_cons_zero]) | go_big_quiet_step (fail))
          refine wpQuiet_nil ?_
          rintro _ ⟨nq, rfl⟩
          go_wp2_with fail
          go_roundw
          case rel => exact ⟨k + 1, by omega, by go_num, N.out, ⟨_, rfl⟩⟩
          case measure => simp [intOf]; omega
        · have F : Hid (decide (l = m) = false) := decide_eq_false fun e2 => e (by rw [e2, hy] at hx; exact (Option.some.inj hx).symm)
          have NE' : ∀ u : World, (binOp .neq 33 (.agg (encP x).toArray) (.agg (encP y).toArray)).run Try.prog u = .ok (.bool true) u := fun u => by rw [NE, decide_eq_false e]; rfl
          clear NE hx hy T e
          go_wp2_with fail
          refine wp_region_quiet_lit (by kernel_rfl) (by kernel_rfl) ?_
          repeat (first | (refine wpQuiet_load_mid (rangeAt_drewN2 R1.out) underPid rfl infoPid rfl rfl ?_; simp only [List.set_cons_succ, List.set_cons_zero]) | (refine wpQuiet_load_mid (rangeAt_drewN2 R2.out) underPid rfl infoPid rfl rfl ?_; simp only [List.set_cons_succ, List.set_cons_zero]) | go_big_quiet_step (fail))
          refine wpQuiet_nil ?_
          rintro _ ⟨nq, rfl⟩
          go_wp2
          go_ret
          exact ⟨ret_bool F.out.symm, _, World.drewN_drewN _ _ _⟩
      · have F : Hid (decide (l = m) = true) := by
          have e := T.out
          rw [List.take_of_length_le (by rw [H.out.len]; omega), List.take_of_length_le (by rw [H'.out.len]; omega)] at e
          exact decide_eq_true e
        clear T
        go_wp2
        go_ret
        exact ⟨ret_bool F.out.symm, q, rfl⟩
  · have F : Hid (decide (l = m) = false) := decide_eq_false fun e => hne (by rw [← h.len, ← h'.len, e])
    clear h h'
    have d1 : ((n : Int) != (n' : Int)) = true := bne_iff_ne.2 (by omega)
    go_enter Try.func20, Try.ntmps20
    go_wp2
    go_ret
    exact ⟨ret_bool F.out.symm, 0, rfl⟩
theorem ext_cmp {w0 : World} {z : Ext w0} (x y : PidV) : Calls Try.prog 25 #[.agg (encP x).toArray, .agg (encP y).toArray] z.w fun e w'' => e = .returned (.int .i64 (signV (keyP x) (keyP y))) ∧ ∃ z' : Ext w0, w'' = z'.w := ext_call (rcmpP x y _)
end Go.Proofs.Ytmfdggolnfoniaa
