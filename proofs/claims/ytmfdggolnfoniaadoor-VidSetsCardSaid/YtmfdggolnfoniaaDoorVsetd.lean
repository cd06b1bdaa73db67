/- Lists of names of vertices: are they the same? -/
import Derived.Test.YtmfdggolnfoniaaDoorVidd
namespace Go.Proofs.YtmfdggolnfoniaaDoor
open Go.RowKit

/-- names in a slice -/
structure VidsAt (w : World) (A : Option Addr) (n : Nat) (l : List VidV) : Prop where
  len : l.length = n
  sl : Sl w w.heap.size 3 A n (l.flatMap encV)
theorem VidsAt.ext {w w' : World} {A : Option Addr} {n : Nat} {l : List VidV} (h : VidsAt w A n l) (hb : Below w.heap.size w w') : VidsAt w' A n l := ⟨h.len, (h.sl.below hb (Nat.le_refl _)).more hb.size⟩
theorem VidsAt.at_ {w : World} {A : Option Addr} {n : Nat} {l : List VidV} (h : VidsAt w A n l) {k : Nat} (hk : k < n) : ∃ b o x, A = some ⟨b, o, none⟩ ∧ b < w.heap.size ∧ l[k]? = some x ∧ w.rangeAt b (o + k * 3) (encV x) := by
  have hk' : k < l.length := by rw [h.len]; exact hk
  obtain ⟨b, o, e, hb, hr⟩ := h.sl.rowAt h.len (fun x _ => encV_len x) hk'
  exact ⟨b, o, l[k], e, hb, List.getElem?_eq_getElem hk', hr⟩
theorem VidsAt.of_own {w : World} {base n : Nat} {v : Value} {l : List VidV} (h : w.ownsRow base 36 3 v n (l.flatMap encV)) (hn : l.length = n) : ∃ A c, v = .slice A n c ∧ n ≤ c ∧ VidsAt w A n l := by
  obtain ⟨A, c, rfl, hc, hs⟩ := Sl.of_own h
  exact ⟨A, c, rfl, hc, hn, hs⟩
set_option maxRecDepth 100000 in
set_option maxHeartbeats 1000000 in
theorem rsameV (l m : List VidV) (w : World) (A A' : Option Addr) (n n' c c' : Nat) (h : VidsAt w A n l) (h' : VidsAt w A' n' m) (hm : n ≤ maxLen) :
    Calls Tryd.prog 31 #[.slice A n c, .slice A' n' c'] w (RetD w (.bool (decide (l = m)))) := by
  unfold maxLen at hm
  by_cases hne : n = n'
  · subst hne
    have H := Lib.hid h
    have H' := Lib.hid h'
    clear h h'
    go_enter Tryd.func31, Tryd.ntmps31
    go_wp2_with fail
    go_loopw [5] (fun i wr => ∃ k : Nat, k ≤ n ∧ i = .int .i64 k ∧ Hid (l.take k = m.take k) ∧ ∃ q, wr = w.drewN q) (fun i _ => n - (intOf i).toNat)
    case atStart => exact ⟨0, by omega, rfl, rfl, 0, rfl⟩
    case round =>
      obtain ⟨k, hk, rfl, T, q, rfl⟩ := hrel
      by_cases hlt : k < n
      · obtain ⟨b, o, x, rfl, hb, hx, R1⟩ := H.out.at_ hlt
        obtain ⟨b', o', y, rfl, hb', hy, R2⟩ := H'.out.at_ hlt
        have R1 := Lib.hid R1
        have R2 := Lib.hid R2
        have hlk : (k : Int) < (n : Int) := by omega
        have hk0 : (0 : Int) ≤ (k : Int) := by omega
        have NE := fun u => neqV x y u
        by_cases e : x = y
        · subst e
          have N := Lib.hid (take_eq_snoc T.out hx hy)
          have NE' : ∀ u : World, (binOp .neq 36 (.agg (encV x).toArray) (.agg (encV x).toArray)).run Tryd.prog u = .ok (.bool false) u := fun u => by rw [NE]; simp
          clear NE hx hy T
          go_wp2_with fail
          refine wp_region_quiet_lit (by kernel_rfl) (by kernel_rfl) ?_
          repeat (first | (refine wpQuiet_load_mid (rangeAt_drewN2 R1.out) underVid rfl infoVid rfl rfl ?_; simp only [List.set_cons_succ, List.set_cons_zero]) | (refine wpQuiet_load_mid (rangeAt_drewN2 R2.out) underVid rfl infoVid rfl rfl ?_; simp only [List.set_cons_succ, List.set_cons_zero]) | go_big_quiet_step (fail))
          refine wpQuiet_nil ?_
          rintro _ ⟨nq, rfl⟩
          go_wp2_with fail
          go_roundw
          case rel => exact ⟨k + 1, by omega, by go_num, N.out, ⟨_, rfl⟩⟩
          case measure => simp [intOf]; omega
        · have F : Hid (decide (l = m) = false) := decide_eq_false fun e2 => e (by rw [e2, hy] at hx; exact (Option.some.inj hx).symm)
          have NE' : ∀ u : World, (binOp .neq 36 (.agg (encV x).toArray) (.agg (encV y).toArray)).run Tryd.prog u = .ok (.bool true) u := fun u => by rw [NE, decide_eq_false e]; rfl
          clear NE hx hy T e
          go_wp2_with fail
          refine wp_region_quiet_lit (by kernel_rfl) (by kernel_rfl) ?_
          repeat (first | (refine wpQuiet_load_mid (rangeAt_drewN2 R1.out) underVid rfl infoVid rfl rfl ?_; simp only [List.set_cons_succ, List.set_cons_zero]) | (refine wpQuiet_load_mid (rangeAt_drewN2 R2.out) underVid rfl infoVid rfl rfl ?_; simp only [List.set_cons_succ, List.set_cons_zero]) | go_big_quiet_step (fail))
          refine wpQuiet_nil ?_
          rintro _ ⟨nq, rfl⟩
          go_wp2
          go_ret
          exact ⟨ret_bool F.out.symm, _, World.drewN_drewN _ _ _⟩
      · have F : Hid (decide (l = m) = true) := by
          have e := T.out
          rw [List.take_of_length_le (by rw [H.out.len]; omega), List.take_of_length_le (by rw [H'.out.len]; omega)] at e
          exact decide_eq_true e
        clear T
        go_wp2
        go_ret
        exact ⟨ret_bool F.out.symm, q, rfl⟩
  · have F : Hid (decide (l = m) = false) := decide_eq_false fun e => hne (by rw [← h.len, ← h'.len, e])
    clear h h'
    have d1 : ((n : Int) != (n' : Int)) = true := bne_iff_ne.2 (by omega)
    go_enter Tryd.func31, Tryd.ntmps31
    go_wp2
    go_ret
    exact ⟨ret_bool F.out.symm, 0, rfl⟩
end Go.Proofs.YtmfdggolnfoniaaDoor
