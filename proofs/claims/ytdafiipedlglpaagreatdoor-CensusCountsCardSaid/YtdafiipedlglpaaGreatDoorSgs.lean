/- Texts of general use, one behind another. -/
import Derived.Test.YtdafiipedlglpaaGreatDoorVids
import Derived.Test.YtdafiipedlglpaaGreatDoorGen
import Derived.Test.YtdafiipedlglpaaGreatDoorSets
import Derived.Deep.RegionHeld3
import Derived.Deep.DeepCutAuto

/- Sets of names: the document's, walked. -/
namespace Go.Proofs.YtdafiipedlglpaaGreatDoor
open Go.RowKit

theorem flat_snocV (mo : List VidV) (y : VidV) : (mo ++ [y]).flatMap encV = mo.flatMap encV ++ encV y := by simp
theorem ext_cV {w0 : World} {z : Ext w0} {v : Int} (x y : VidV) (h : signV (keyV x) (keyV y) = v) : Calls Tryz.prog 244 #[.agg (encV x).toArray, .agg (encV y).toArray] z.w fun e w'' => e = .returned (.int .i64 v) ∧ ∃ z' : Ext w0, w'' = z'.w := by
  rw [← h]; exact ext_call (rcmpV x y _)
set_option maxRecDepth 100000 in
set_option maxHeartbeats 8000000 in
theorem rsetV_own (l : List VidV) (w : World) (A : Option Addr) (n c : Nat) (h : VidsAt w A n l) (hm : n ≤ 100000) :
    Calls Tryz.prog 219 #[.slice A n c] w (OwnedRet w 98 3 (setK keyV l).length ((setK keyV l).flatMap encV)) := by
  have H := Lib.hid h
  clear h
  go_enter Tryz.func219, Tryz.ntmps219
  go_wp2_with fail
  go_loopw [3, 4] (fun v i wr => ∃ (k : Nat) (outs : List VidV), k ≤ n ∧ outs.length ≤ k ∧ i = .int .i64 k ∧ Hid (outs = setK keyV (l.take k)) ∧ Hid (wr.ownsRow w.heap.size 98 3 v outs.length (outs.flatMap encV)) ∧ Hid (Below w.heap.size w wr)) (fun _ i _ => n - (intOf i).toNat)
  case atStart => exact ⟨0, [], by omega, by simp, rfl, rfl, ⟨rfl, .inl ⟨rfl, rfl⟩⟩, Below.refl _ _⟩
  case round =>
    obtain ⟨k, outs, hk, ho, rfl, E, O, B⟩ := hrel
    have hk0 : (0 : Int) ≤ (k : Int) := by omega
    by_cases hlt : k < n
    · obtain ⟨b, o, x, rfl, hb, hx, R0⟩ := H.out.at_ hlt
      have hbr : b < wr.heap.size := Nat.lt_of_lt_of_le hb B.out.size
      have R0 := Lib.hid (rangeAt_below R0 B.out hb)
      obtain ⟨A3, c3, rfl, hc3, P3⟩ := VidsAt.of_own O.out rfl
      have P3 := Lib.hid P3
      have S := Lib.hid (show setK keyV (l.take (k + 1)) = insK keyV x outs by rw [setK_snoc hx, E.out])
      clear hx hc3
      have hlk : (k : Int) < (n : Int) := by omega
      go_wp2_with fail
      obtain ⟨wo, rfl⟩ : ∃ wo : World, wo = wr := ⟨_, rfl⟩
      go_loopw [5, 6, 7] (fun v t i wr => ∃ (j : Nat) (mo : List VidV) (f : Bool), j ≤ outs.length ∧ mo.length ≤ j + f.toNat ∧ i = .int .i64 j ∧ t = .bool f ∧ Hid ((outs.take j).foldl (stepK keyV x) ([], false) = (mo, f)) ∧ Hid (wr.ownsRow wo.heap.size 98 3 v mo.length (mo.flatMap encV)) ∧ Hid (Below wo.heap.size wo wr)) (fun _ _ i _ => outs.length - (intOf i).toNat)
      case atStart => exact ⟨0, [], false, by omega, by simp, rfl, rfl, rfl, ⟨rfl, .inl ⟨rfl, rfl⟩⟩, Below.refl _ _⟩
      case round =>
        obtain ⟨j, mo, f, hj, hmo, rfl, rfl, D, O5, B5⟩ := hrel
        have hj0 : (0 : Int) ≤ (j : Int) := by omega
        by_cases hjl : j < outs.length
        · obtain ⟨b', o', y, rfl, hb', hy, R3⟩ := P3.out.at_ hjl
          have hbr' : b' < wr.heap.size := Nat.lt_of_lt_of_le hb' B5.out.size
          have hbr2 : b < wr.heap.size := Nat.lt_of_lt_of_le hbr B5.out.size
          have R3 := Lib.hid (rangeAt_below R3 B5.out hb')
          have R1 := Lib.hid (rangeAt_below R0.out B5.out hbr)
          have D2 := Lib.hid (fold_snoc (f := stepK keyV x) (b := ([], false)) hy)
          rw [D.out] at D2
          have hlj : (j : Int) < (outs.length : Int) := by omega
          clear hy D
          cases f with
          | true =>
            have hmo : mo.length ≤ j + 1 := hmo
            rw [stepK_held] at D2
            go_wp2_with fail
            refine wp_region_ext mixedS (by kernel_rfl) ?_
            repeat (first | go_big_quiet_skip | go_big_quiet_step (fail))
            refine wpQuiet_nil ?_
            rintro _ ⟨z, rfl⟩
            have O5 := Lib.hid (own_ext O5.out z.h)
            have B5 := Lib.hid (B5.out.trans (z.h.mono B5.out.size))
            have R1 := Lib.hid (rangeAt_below R1.out z.h hbr2)
            have R3 := Lib.hid (rangeAt_below R3.out z.h hbr')
            have hbr2 := Nat.lt_of_lt_of_le hbr2 z.h.size
            have hbr' := Nat.lt_of_lt_of_le hbr' z.h.size
            generalize z.w = w3 at *
            clear z
            go_wp2_with fail
            refine wp_region_ext mixedS (by kernel_rfl) ?_
            repeat (first | go_big_quiet_skip | go_big_quiet_step (fail))
            refine wpQuiet_nil ?_
            rintro _ ⟨z, rfl⟩
            have O5 := Lib.hid (own_ext O5.out z.h)
            have B5 := Lib.hid (B5.out.trans (z.h.mono B5.out.size))
            have R1 := Lib.hid (rangeAt_below R1.out z.h hbr2)
            have R3 := Lib.hid (rangeAt_below R3.out z.h hbr')
            have hbr2 := Nat.lt_of_lt_of_le hbr2 z.h.size
            have hbr' := Nat.lt_of_lt_of_le hbr' z.h.size
            generalize z.w = w4 at *
            clear z
            go_wp2_with (first | (refine wpList_load_mid rfl 98 _ rfl _ _ (by rfl) _ _ R3.out underVid rfl infoVid ?_) | (refine wpList_lit1 vidSl (encV_len y) (by omega) (by rfl) ?_) | (at_builtin; refine wpList_push vidSl O5.out (encV y) rfl (encV_one y) B5.out.size (by omega) (by unfold maxLen; omega) (by rfl) (by rfl) (by rfl) ?_; intro v1 w5 own1 bel1))
            have B6 := Lib.hid (B5.out.trans bel1)
            have O6 : Hid (w5.ownsRow wo.heap.size 98 3 v1 (mo ++ [y]).length ((mo ++ [y]).flatMap encV)) := by
              rw [Hid]; simp only [flat_snocV, List.length_append, List.length_cons, List.length_nil, Nat.zero_add]; exact own1
            clear own1 bel1 O5 B5
            go_roundw
            case rel => exact ⟨j + 1, _, true, by omega, by simp; omega, by go_num, rfl, D2.out, O6, B6⟩
            case measure => simp [intOf]; omega
          | false =>
            have hmo : mo.length ≤ j := hmo
            rcases Int.lt_trichotomy (keyV x) (keyV y) with hs | hs | hs
            · have CS := Lib.hid (signV_lt hs)
              rw [stepK_less hs] at D2
              clear hs
              go_wp2_with fail
              refine wp_region_ext mixedS (by kernel_rfl) ?_
              repeat (first | (refine wpQuiet_load_mid (rangeAt_ext R1.out hbr2) underVid rfl infoVid rfl rfl ?_; simp only [List.set_cons_succ, List.set_cons_zero]) | (refine wpQuiet_load_mid (rangeAt_ext R3.out hbr') underVid rfl infoVid rfl rfl ?_; simp only [List.set_cons_succ, List.set_cons_zero]) | go_big_quiet_step ((go_at_call 244; exact ext_cV x y CS.out)))
              refine wpQuiet_nil ?_
              rintro _ ⟨z, rfl⟩
              have O5 := Lib.hid (own_ext O5.out z.h)
              have B5 := Lib.hid (B5.out.trans (z.h.mono B5.out.size))
              have R1 := Lib.hid (rangeAt_below R1.out z.h hbr2)
              have R3 := Lib.hid (rangeAt_below R3.out z.h hbr')
              have hbr2 := Nat.lt_of_lt_of_le hbr2 z.h.size
              have hbr' := Nat.lt_of_lt_of_le hbr' z.h.size
              generalize z.w = w3 at *
              clear z
              go_wp2_with (first | (refine wpList_load_mid rfl 98 _ rfl _ _ (by rfl) _ _ R1.out underVid rfl infoVid ?_) | (refine wpList_lit1 vidSl (encV_len x) (by omega) (by rfl) ?_) | (at_builtin; refine wpList_push vidSl O5.out (encV x) rfl (encV_one x) B5.out.size (by omega) (by unfold maxLen; omega) (by rfl) (by rfl) (by rfl) ?_; intro v1 w4 own1 bel1))
              have R3 := Lib.hid (show w4.rangeAt b' (o' + j * 3) (encV y) from by
                have h1 := rangeAt_below R3.out (Below.refl w3.heap.size w3) hbr'
                exact rangeAt_keep h1 fun q => bel1.cell (p := ⟨b', q, none⟩) hb')
              have B5 := Lib.hid (B5.out.trans bel1)
              have O5 : Hid (w4.ownsRow wo.heap.size 98 3 v1 (mo ++ [x]).length ((mo ++ [x]).flatMap encV)) := by
                rw [Hid]; simp only [flat_snocV, List.length_append, List.length_cons, List.length_nil, Nat.zero_add]; exact own1
              have R1 := Lib.hid (rangeAt_keep R1.out fun q => bel1.cell (p := ⟨b, q, none⟩) hbr)
              have hbr2 := Nat.lt_of_lt_of_le hbr B5.out.size
              have hbr' := Nat.lt_of_lt_of_le hb' B5.out.size
              clear own1 bel1
              refine wp_region_ext mixedS (by kernel_rfl) ?_
              repeat (first | go_big_quiet_skip | go_big_quiet_step (fail))
              refine wpQuiet_nil ?_
              rintro _ ⟨z, rfl⟩
              have O5 := Lib.hid (own_ext O5.out z.h)
              have B5 := Lib.hid (B5.out.trans (z.h.mono B5.out.size))
              have R1 := Lib.hid (rangeAt_below R1.out z.h hbr2)
              have R3 := Lib.hid (rangeAt_below R3.out z.h hbr')
              have hbr2 := Nat.lt_of_lt_of_le hbr2 z.h.size
              have hbr' := Nat.lt_of_lt_of_le hbr' z.h.size
              generalize z.w = w5 at *
              clear z
              have hml : (mo ++ [x]).length ≤ j + 2 := by simp; omega

              go_wp2_with (first | (refine wpList_load_mid rfl 98 _ rfl _ _ (by rfl) _ _ R3.out underVid rfl infoVid ?_) | (refine wpList_lit1 vidSl (encV_len y) (by omega) (by rfl) ?_) | (at_builtin; refine wpList_push vidSl O5.out (encV y) rfl (encV_one y) B5.out.size (by omega) (by unfold maxLen; omega) (by rfl) (by rfl) (by rfl) ?_; intro v1 w6 own1 bel1))
              have D2 : Hid (List.foldl (stepK keyV x) ([], false) (outs.take (j + 1)) = ((mo ++ [x]) ++ [y], true)) := by rw [Hid, D2.out]; simp
              have B6 := Lib.hid (B5.out.trans bel1)
              have O6 : Hid (w6.ownsRow wo.heap.size 98 3 v1 ((mo ++ [x]) ++ [y]).length (((mo ++ [x]) ++ [y]).flatMap encV)) := by
                rw [Hid]; rw [flat_snocV, List.length_append]; exact own1
              clear own1 bel1 O5 B5
              go_roundw
              case rel => exact ⟨j + 1, _, true, by omega, by simp; omega, by go_num, rfl, D2.out, O6, B6⟩
              case measure => simp [intOf]; omega
            · have CS := Lib.hid (signV_eq hs)
              rw [stepK_same hs] at D2
              clear hs
              go_wp2_with fail
              refine wp_region_ext mixedS (by kernel_rfl) ?_
              repeat (first | (refine wpQuiet_load_mid (rangeAt_ext R1.out hbr2) underVid rfl infoVid rfl rfl ?_; simp only [List.set_cons_succ, List.set_cons_zero]) | (refine wpQuiet_load_mid (rangeAt_ext R3.out hbr') underVid rfl infoVid rfl rfl ?_; simp only [List.set_cons_succ, List.set_cons_zero]) | go_big_quiet_step ((go_at_call 244; exact ext_cV x y CS.out)))
              refine wpQuiet_nil ?_
              rintro _ ⟨z, rfl⟩
              have O5 := Lib.hid (own_ext O5.out z.h)
              have B5 := Lib.hid (B5.out.trans (z.h.mono B5.out.size))
              have R1 := Lib.hid (rangeAt_below R1.out z.h hbr2)
              have R3 := Lib.hid (rangeAt_below R3.out z.h hbr')
              have hbr2 := Nat.lt_of_lt_of_le hbr2 z.h.size
              have hbr' := Nat.lt_of_lt_of_le hbr' z.h.size
              generalize z.w = w3 at *
              clear z
              go_wp2_with fail
              refine wp_region_ext mixedS (by kernel_rfl) ?_
              repeat (first | (refine wpQuiet_load_mid (rangeAt_ext R1.out hbr2) underVid rfl infoVid rfl rfl ?_; simp only [List.set_cons_succ, List.set_cons_zero]) | (refine wpQuiet_load_mid (rangeAt_ext R3.out hbr') underVid rfl infoVid rfl rfl ?_; simp only [List.set_cons_succ, List.set_cons_zero]) | go_big_quiet_step ((go_at_call 244; exact ext_cV x y CS.out)))
              refine wpQuiet_nil ?_
              rintro _ ⟨z, rfl⟩
              have O5 := Lib.hid (own_ext O5.out z.h)
              have B5 := Lib.hid (B5.out.trans (z.h.mono B5.out.size))
              have R1 := Lib.hid (rangeAt_below R1.out z.h hbr2)
              have R3 := Lib.hid (rangeAt_below R3.out z.h hbr')
              have hbr2 := Nat.lt_of_lt_of_le hbr2 z.h.size
              have hbr' := Nat.lt_of_lt_of_le hbr' z.h.size
              generalize z.w = w4 at *
              clear z
              go_wp2_with (first | (refine wpList_load_mid rfl 98 _ rfl _ _ (by rfl) _ _ R3.out underVid rfl infoVid ?_) | (refine wpList_lit1 vidSl (encV_len y) (by omega) (by rfl) ?_) | (at_builtin; refine wpList_push vidSl O5.out (encV y) rfl (encV_one y) B5.out.size (by omega) (by unfold maxLen; omega) (by rfl) (by rfl) (by rfl) ?_; intro v1 w5 own1 bel1))
              have B6 := Lib.hid (B5.out.trans bel1)
              have O6 : Hid (w5.ownsRow wo.heap.size 98 3 v1 (mo ++ [y]).length ((mo ++ [y]).flatMap encV)) := by
                rw [Hid]; simp only [flat_snocV, List.length_append, List.length_cons, List.length_nil, Nat.zero_add]; exact own1
              clear own1 bel1 O5 B5
              go_roundw
              case rel => exact ⟨j + 1, _, true, by omega, by simp; omega, by go_num, rfl, D2.out, O6, B6⟩
              case measure => simp [intOf]; omega
            · have CS := Lib.hid (signV_gt hs)
              rw [stepK_more hs] at D2
              clear hs
              go_wp2_with fail
              refine wp_region_ext mixedS (by kernel_rfl) ?_
              repeat (first | (refine wpQuiet_load_mid (rangeAt_ext R1.out hbr2) underVid rfl infoVid rfl rfl ?_; simp only [List.set_cons_succ, List.set_cons_zero]) | (refine wpQuiet_load_mid (rangeAt_ext R3.out hbr') underVid rfl infoVid rfl rfl ?_; simp only [List.set_cons_succ, List.set_cons_zero]) | go_big_quiet_step ((go_at_call 244; exact ext_cV x y CS.out)))
              refine wpQuiet_nil ?_
              rintro _ ⟨z, rfl⟩
              have O5 := Lib.hid (own_ext O5.out z.h)
              have B5 := Lib.hid (B5.out.trans (z.h.mono B5.out.size))
              have R1 := Lib.hid (rangeAt_below R1.out z.h hbr2)
              have R3 := Lib.hid (rangeAt_below R3.out z.h hbr')
              have hbr2 := Nat.lt_of_lt_of_le hbr2 z.h.size
              have hbr' := Nat.lt_of_lt_of_le hbr' z.h.size
              generalize z.w = w3 at *
              clear z
              go_wp2_with fail
              refine wp_region_ext mixedS (by kernel_rfl) ?_
              repeat (first | (refine wpQuiet_load_mid (rangeAt_ext R1.out hbr2) underVid rfl infoVid rfl rfl ?_; simp only [List.set_cons_succ, List.set_cons_zero]) | (refine wpQuiet_load_mid (rangeAt_ext R3.out hbr') underVid rfl infoVid rfl rfl ?_; simp only [List.set_cons_succ, List.set_cons_zero]) | go_big_quiet_step ((go_at_call 244; exact ext_cV x y CS.out)))
              refine wpQuiet_nil ?_
              rintro _ ⟨z, rfl⟩
              have O5 := Lib.hid (own_ext O5.out z.h)
              have B5 := Lib.hid (B5.out.trans (z.h.mono B5.out.size))
              have R1 := Lib.hid (rangeAt_below R1.out z.h hbr2)
              have R3 := Lib.hid (rangeAt_below R3.out z.h hbr')
              have hbr2 := Nat.lt_of_lt_of_le hbr2 z.h.size
              have hbr' := Nat.lt_of_lt_of_le hbr' z.h.size
              generalize z.w = w4 at *
              clear z
              go_wp2_with (first | (refine wpList_load_mid rfl 98 _ rfl _ _ (by rfl) _ _ R3.out underVid rfl infoVid ?_) | (refine wpList_lit1 vidSl (encV_len y) (by omega) (by rfl) ?_) | (at_builtin; refine wpList_push vidSl O5.out (encV y) rfl (encV_one y) B5.out.size (by omega) (by unfold maxLen; omega) (by rfl) (by rfl) (by rfl) ?_; intro v1 w5 own1 bel1))
              have B6 := Lib.hid (B5.out.trans bel1)
              have O6 : Hid (w5.ownsRow wo.heap.size 98 3 v1 (mo ++ [y]).length ((mo ++ [y]).flatMap encV)) := by
                rw [Hid]; simp only [flat_snocV, List.length_append, List.length_cons, List.length_nil, Nat.zero_add]; exact own1
              clear own1 bel1 O5 B5
              go_roundw
              case rel => exact ⟨j + 1, _, false, by omega, by simp; omega, by go_num, rfl, D2.out, O6, B6⟩
              case measure => simp [intOf]; omega
        · have EN := Lib.hid (endK_foldl (key := keyV) x outs [])
          have D3 := D.out
          rw [List.take_of_length_le (by omega)] at D3
          rw [D3, List.nil_append, ← S.out] at EN
          clear D D3
          cases f with
          | true =>
            have hmo : mo.length ≤ j + 1 := hmo
            have EN := Lib.hid (show mo = setK keyV (l.take (k + 1)) from EN.out)
            go_wp2_with fail
            have B6 := Lib.hid (B.out.trans (B5.out.mono B.out.size))
            have O6 := Lib.hid (own_mono' O5.out B.out.size)
            have hml : mo.length ≤ k + 1 := by omega
            go_roundw
            case rel => exact ⟨k + 1, mo, by omega, by omega, by go_num, EN.out, O6.out, B6.out⟩
            case measure => simp [intOf]; omega
          | false =>
            have hmo : mo.length ≤ j := hmo
            have EN := Lib.hid (show mo ++ [x] = setK keyV (l.take (k + 1)) from EN.out)
            have R1 := Lib.hid (rangeAt_below R0.out B5.out hbr)
            have hsl := setK_len (key := keyV) (l.take (k + 1))
            rw [← EN.out] at hsl
            rw [List.length_take] at hsl
            have hsl2 : (mo ++ [x]).length ≤ k + 1 := by omega
            clear hsl
            go_wp2_with (first | (refine wpList_load_mid rfl 98 _ rfl _ _ (by rfl) _ _ R1.out underVid rfl infoVid ?_) | (refine wpList_lit1 vidSl (encV_len x) (by omega) (by rfl) ?_) | (at_builtin; refine wpList_push vidSl O5.out (encV x) rfl (encV_one x) B5.out.size (by omega) (by unfold maxLen; omega) (by rfl) (by rfl) (by rfl) ?_; intro v1 w4 own1 bel1))
            have B6 := Lib.hid (B.out.trans ((B5.out.trans bel1).mono B.out.size))
            have O6 : Hid (w4.ownsRow w.heap.size 98 3 v1 (mo ++ [x]).length ((mo ++ [x]).flatMap encV)) := by
              rw [Hid]; simp only [flat_snocV, List.length_append, List.length_cons, List.length_nil, Nat.zero_add]; exact own_mono' own1 B.out.size
            clear own1 bel1 O5 B5
            go_roundw
            case rel => exact ⟨k + 1, _, by omega, hsl2, by go_num, EN.out, O6, B6⟩
            case measure => simp [intOf]; omega
    · have hkn : k = n := by omega
      subst hkn
      have E2 := E.out
      rw [List.take_of_length_le (by rw [H.out.len]; exact Nat.le_refl _)] at E2
      subst E2
      clear E
      go_wp2
      go_ret
      exact ⟨_, rfl, O.out, B.out⟩
end Go.Proofs.YtdafiipedlglpaaGreatDoor

/- vid.Set: names of vertices, each once, rising. -/
namespace Go.Proofs.YtdafiipedlglpaaGreatDoor
open Go.RowKit Go.Sort
open Go.ChangeMaps (setBlock)

theorem kLawV : Go.WideMaps.KeyLaw Tryz.prog 98 := deep_law_laid (by kernel_rfl) (m := 3) (by omega) (of_decide_eq_true (by kernel_rfl)) (by kernel_rfl) (by kernel_rfl)
theorem kKeyV (v : VidV) : ∃ kl, keyOf Tryz.prog 98 (.agg (encV v).toArray) = some kl := by
  have h1 := v.1.1.isLt
  have h2 := v.1.2.isLt
  have h3 := v.2.isLt
  have : FlatOk [.int .u8, .int .u16, .int .u8] (encV v) := by
    refine ⟨⟨_, rfl, ?_⟩, ⟨_, rfl, ?_⟩, ⟨_, rfl, ?_⟩, trivial⟩ <;> simp [Lit.wf, IntKind.min, IntKind.max, IntKind.signed, IntKind.bits] <;> omega
  exact keyOf_flat (by kernel_rfl) (by kernel_rfl) (by kernel_rfl) (by kernel_rfl) (of_decide_eq_true (by kernel_rfl)) this
end Go.Proofs.YtdafiipedlglpaaGreatDoor
