/- In whichever order: the statement walked. -/
import Derived.Test.YtihggkmjalofiaaGreatDoorFinj
import Derived.Test.YtihggkmjalofiaaGreatDoorFinl
import Derived.Test.YtihggkmjalofiaaGreatDoorGrns
namespace Go.Proofs.YtihggkmjalofiaaGreatDoor
open Go.RowKit

set_option maxRecDepth 100000 in
set_option maxHeartbeats 8000000 in
theorem fingerTurns_walk (w : World) (l : List PatV) (A : Option Addr) (n c : Nat) (hm : n ≤ maxLen) (h : PatsAt w A n l) (fr : Int) (hfr : (Lit.int .u8 fr).wf = true) (hT : ShaK w ∧ ShaB w) :
    Calls Tryz.prog 3 #[.slice A n c, .int .u8 fr] w (RetB w (.bool true)) := by
  obtain ⟨f, rfl, hf256⟩ : ∃ f : Nat, fr = (f : Int) ∧ f < 256 := ⟨fr.toNat, by have := u8_bd20 hfr; omega, by have := u8_bd20 hfr; omega⟩
  replace hf256 := Lib.hid hf256
  have H0 := Lib.hid h
  have HW : Hid (∀ u : World, Below w.heap.size w u → Calls Tryz.prog 12 #[] u (RetB u (.bool true))) := fun u hu => works47 u (shaK_ext hT.1 hu) (shaB_ext hT.2 hu)
  have HSK : Hid (∀ u : World, Below w.heap.size w u → ShaK u) := fun u hu => shaK_ext hT.1 hu
  have HSB : Hid (∀ u : World, Below w.heap.size w u → ShaB u) := fun u hu => shaB_ext hT.2 hu
  clear h hfr hT
  go_enter Tryz.func3, Tryz.ntmps3
  have HF := Lib.hid (few20_any l w A n c 12 H0.out hm)
  cases hf : fewsB l 12
  · rw [fewsN_false hf] at HF
    go_wp2_with fail
    refine HF.out.mono ?_
    rintro e w3 ⟨rfl, b3⟩
    have B3 := Lib.hid b3
    clear b3 HF
    go_wp2_with fail
    refine (HW.out _ B3.out).mono ?_
    rintro e w4 ⟨rfl, b4⟩
    have B4 := Lib.hid (B3.out.trans (b4.mono B3.out.size))
    clear b4
    go_wp2
    go_ret
    exact ⟨rfl, B4.out⟩
  · rw [fewsN_true hf] at HF
    have hn20 : n ≤ 12 := by have h1 := (fews_at20 hf).1; have h2 := H0.out.len; omega
    have hln := Lib.hid H0.out.len
    have hop := Lib.hid (fun p hp => ((fews_at20 hf).2 p hp).2)
    clear hm
    go_wp2_with fail
    refine HF.out.mono ?_
    rintro e w3 ⟨rfl, b3⟩
    have B3 := Lib.hid b3
    clear b3 HF hf
    have hcS : ∀ args u, (callFunc 13 args).run Tryz.prog u = .ok (.enter 13 args) u := enters_of Tryz.func13 (by kernel_rfl) rfl
    go_wp2_with fail
    go_loopw [5] (fun i wr => ∃ k : Nat, k ≤ n ∧ i = .int .i64 k ∧ Hid (OneN l k) ∧ Hid (Below w.heap.size w wr)) (fun i _ => n - (intOf i).toNat)
    case atStart => exact ⟨0, by omega, rfl, (fun a _ _ _ h => absurd h (Nat.not_lt_zero a)), B3.out⟩
    case round =>
      clear B3
      obtain ⟨k, hk, rfl, ON, B⟩ := hrel
      have hk0 : (0 : Int) ≤ (k : Int) := by omega
      by_cases hlt : k < n
      · have hlk : (k : Int) < (n : Int) := by omega
        obtain ⟨b, o, p, r, rfl, hb, hp, pa, R⟩ := H0.out.at_ hlt
        have PP := Lib.hid pa
        have RP := Lib.hid R
        have hbP := Lib.hid hb
        obtain ⟨⟨A1, c1, A2, c2, rfl, _, _⟩, _, _⟩ := pa
        have hp := Lib.hid hp
        clear R hb
        go_wp2_with fail
        go_loopw [6] (fun i wr => ∃ j : Nat, j ≤ k ∧ i = .int .i64 j ∧ Hid (OneI l p j) ∧ Hid (Below w.heap.size w wr)) (fun i _ => k - (intOf i).toNat)
        case atStart => exact ⟨0, by omega, rfl, (fun a _ h => absurd h (Nat.not_lt_zero a)), B.out⟩
        case round =>
          clear B
          obtain ⟨j, hj, rfl, OI, B⟩ := hrel
          obtain ⟨wj, rfl⟩ : ∃ wx, wx = wr := ⟨_, rfl⟩
          have hj0 : (0 : Int) ≤ (j : Int) := by omega
          by_cases hjt : j < k
          · have hjk : (j : Int) < (k : Int) := by omega
            obtain ⟨b', o', q, r', e', hb', hq, qa, R'⟩ := H0.out.at_ (k := j) (by omega)
            cases e'
            have PQ := Lib.hid (qa.ext B.out)
            have PP5 := Lib.hid (PP.out.ext B.out)
            have RQ := Lib.hid (rangeAt_below R' B.out hb')
            have RP5 := Lib.hid (rangeAt_below RP.out B.out hbP.out)
            have hb5 : Hid (b < wj.heap.size) := Nat.lt_of_lt_of_le hbP.out B.out.size
            obtain ⟨⟨A3, c3, A4, c4, rfl, _, _⟩, _, _⟩ := qa
            have hq := Lib.hid hq
            have IK := Lib.hid (fun u => indexPats20 b o n c k hlt u)
            have IJ := Lib.hid (fun u => indexPats20 b o n c j (by omega) u)
            have FX := fieldPat20
            have RPW := Lib.hid (fun (u : World) (hu : Below wj.heap.size wj u) => rangeAt_below RP5.out hu hb5.out)
            have RQW := Lib.hid (fun (u : World) (hu : Below wj.heap.size wj u) => rangeAt_below RQ.out hu hb5.out)
            have HS := Lib.hid (fun (u : World) (hu : Below wj.heap.size wj u) => psame p q u _ _ (PP5.out.ext hu) (PQ.out.ext hu))
            have EQ := Lib.hid (fun u => eqlP p.1 q.1 u)
            clear R' hb'
            go_upto_region 9 with fail
            try go_frame
            refine wp_region_held (S := fun w' => Below wj.heap.size wj w') mixedS ?_
            change wpAnyH _ _ _ _ _ _ _ _ wj.drew
            have B21 : Hid (Below wj.heap.size wj wj.drew) := (Below.refl _ _).drew
            generalize wj.drew = w21 at B21 ⊢
            simp only [List.size_toArray, List.length_cons, List.length_nil]
            by_cases hid : p.1 = q.1
            · rw [decide_eq_true hid] at EQ
              by_cases hpq : p = q
              · rw [decide_eq_true hpq] at HS
                replace hpq := Lib.hid hpq
                replace hid := Lib.hid hid
                refine takeV (i := 0) (d := 26) (v := .slice (some ⟨b, o, none⟩) n c) rfl (by kernel_rfl) (by kernel_rfl) (by kernel_rfl) (fun _ _ _ h => h) rfl (fun _ _ => exMove (v := .slice (some ⟨b, o, none⟩) n c) rfl) B21.out ?_
                simp only [Act.put, List.setIfInBounds_toArray, List.set_cons_zero, List.set_cons_succ]
                refine takeV (i := 1) (d := 27) (v := .int .i64 (k : Int)) rfl (by kernel_rfl) (by kernel_rfl) (by kernel_rfl) (fun _ _ _ h => h) rfl (fun _ _ => exMove (v := .int .i64 (k : Int)) rfl) B21.out ?_
                simp only [Act.put, List.setIfInBounds_toArray, List.set_cons_zero, List.set_cons_succ]
                refine takeV (i := 2) (d := 28) (v := .pointer (some ⟨b, o + k * 4, none⟩)) rfl (by kernel_rfl) (by kernel_rfl) (by kernel_rfl) (fun _ _ _ h => h) rfl (fun w' _ => exIndex rfl rfl (IK.out w')) B21.out ?_
                simp only [Act.put, List.setIfInBounds_toArray, List.set_cons_zero, List.set_cons_succ]
                refine takeV (i := 3) (d := 29) (v := .pointer (some ⟨b, o + k * 4, none⟩)) rfl (by kernel_rfl) (by kernel_rfl) (by kernel_rfl) (fun _ _ _ h => h) rfl (fun w' _ => exField rfl (FX b (o + k * 4) w')) B21.out ?_
                simp only [Act.put, List.setIfInBounds_toArray, List.set_cons_zero, List.set_cons_succ]
                refine takeV (i := 4) (d := 30) (v := .agg (encP p.1).toArray) rfl (by kernel_rfl) (by kernel_rfl) (by kernel_rfl) (fun _ _ _ h => h) rfl (fun w' h => exMid rfl (pid_range (RPW.out w' h)) underPid rfl infoPid) B21.out ?_
                simp only [Act.put, List.setIfInBounds_toArray, List.set_cons_zero, List.set_cons_succ]
                refine takeV (i := 5) (d := 31) (v := .slice (some ⟨b, o, none⟩) n c) rfl (by kernel_rfl) (by kernel_rfl) (by kernel_rfl) (fun _ _ _ h => h) rfl (fun _ _ => exMove (v := .slice (some ⟨b, o, none⟩) n c) rfl) B21.out ?_
                simp only [Act.put, List.setIfInBounds_toArray, List.set_cons_zero, List.set_cons_succ]
                refine takeV (i := 6) (d := 32) (v := .int .i64 (j : Int)) rfl (by kernel_rfl) (by kernel_rfl) (by kernel_rfl) (fun _ _ _ h => h) rfl (fun _ _ => exMove (v := .int .i64 (j : Int)) rfl) B21.out ?_
                simp only [Act.put, List.setIfInBounds_toArray, List.set_cons_zero, List.set_cons_succ]
                refine takeV (i := 7) (d := 33) (v := .pointer (some ⟨b, o + j * 4, none⟩)) rfl (by kernel_rfl) (by kernel_rfl) (by kernel_rfl) (fun _ _ _ h => h) rfl (fun w' _ => exIndex rfl rfl (IJ.out w')) B21.out ?_
                simp only [Act.put, List.setIfInBounds_toArray, List.set_cons_zero, List.set_cons_succ]
                refine takeV (i := 8) (d := 34) (v := .pointer (some ⟨b, o + j * 4, none⟩)) rfl (by kernel_rfl) (by kernel_rfl) (by kernel_rfl) (fun _ _ _ h => h) rfl (fun w' _ => exField rfl (FX b (o + j * 4) w')) B21.out ?_
                simp only [Act.put, List.setIfInBounds_toArray, List.set_cons_zero, List.set_cons_succ]
                refine takeV (i := 9) (d := 35) (v := .agg (encP q.1).toArray) rfl (by kernel_rfl) (by kernel_rfl) (by kernel_rfl) (fun _ _ _ h => h) rfl (fun w' h => exMid rfl (pid_range (RQW.out w' h)) underPid rfl infoPid) B21.out ?_
                simp only [Act.put, List.setIfInBounds_toArray, List.set_cons_zero, List.set_cons_succ]
                refine takeV (i := 10) (d := 36) (v := .bool true) rfl (by kernel_rfl) (by kernel_rfl) (by kernel_rfl) (fun _ _ _ h => h) rfl (fun w' _ => exBin rfl rfl (eqg20 _ _ _ _ _) (EQ.out w')) B21.out ?_
                simp only [Act.put, List.setIfInBounds_toArray, List.set_cons_zero, List.set_cons_succ]
                refine takeV (i := 11) (d := 37) (v := .bool true) rfl (by kernel_rfl) (by kernel_rfl) (by kernel_rfl) (fun _ _ _ h => h) rfl (fun _ _ => exMove (v := .bool true) rfl) B21.out ?_
                simp only [Act.put, List.setIfInBounds_toArray, List.set_cons_zero, List.set_cons_succ]
                refine takeV (i := 12) (d := 38) (v := .slice (some ⟨b, o, none⟩) n c) rfl (by kernel_rfl) (by kernel_rfl) (by kernel_rfl) (fun _ _ _ h => h) rfl (fun _ _ => exMove (v := .slice (some ⟨b, o, none⟩) n c) rfl) B21.out ?_
                simp only [Act.put, List.setIfInBounds_toArray, List.set_cons_zero, List.set_cons_succ]
                refine takeV (i := 13) (d := 39) (v := .int .i64 (k : Int)) rfl (by kernel_rfl) (by kernel_rfl) (by kernel_rfl) (fun _ _ _ h => h) rfl (fun _ _ => exMove (v := .int .i64 (k : Int)) rfl) B21.out ?_
                simp only [Act.put, List.setIfInBounds_toArray, List.set_cons_zero, List.set_cons_succ]
                refine takeV (i := 14) (d := 40) (v := .pointer (some ⟨b, o + k * 4, none⟩)) rfl (by kernel_rfl) (by kernel_rfl) (by kernel_rfl) (fun _ _ _ h => h) rfl (fun w' _ => exIndex rfl rfl (IK.out w')) B21.out ?_
                simp only [Act.put, List.setIfInBounds_toArray, List.set_cons_zero, List.set_cons_succ]
                refine takeV (i := 15) (d := 41) (v := .agg (patC p.1 A1 p.2.1.length c1 A2 p.2.2.length c2).toArray) rfl (by kernel_rfl) (by kernel_rfl) (by kernel_rfl) (fun _ _ _ h => h) rfl (fun w' h => exMid rfl (RPW.out w' h) underPat rfl infoPat) B21.out ?_
                simp only [Act.put, List.setIfInBounds_toArray, List.set_cons_zero, List.set_cons_succ]
                refine takeV (i := 16) (d := 42) (v := .slice (some ⟨b, o, none⟩) n c) rfl (by kernel_rfl) (by kernel_rfl) (by kernel_rfl) (fun _ _ _ h => h) rfl (fun _ _ => exMove (v := .slice (some ⟨b, o, none⟩) n c) rfl) B21.out ?_
                simp only [Act.put, List.setIfInBounds_toArray, List.set_cons_zero, List.set_cons_succ]
                refine takeV (i := 17) (d := 43) (v := .int .i64 (j : Int)) rfl (by kernel_rfl) (by kernel_rfl) (by kernel_rfl) (fun _ _ _ h => h) rfl (fun _ _ => exMove (v := .int .i64 (j : Int)) rfl) B21.out ?_
                simp only [Act.put, List.setIfInBounds_toArray, List.set_cons_zero, List.set_cons_succ]
                refine takeV (i := 18) (d := 44) (v := .pointer (some ⟨b, o + j * 4, none⟩)) rfl (by kernel_rfl) (by kernel_rfl) (by kernel_rfl) (fun _ _ _ h => h) rfl (fun w' _ => exIndex rfl rfl (IJ.out w')) B21.out ?_
                simp only [Act.put, List.setIfInBounds_toArray, List.set_cons_zero, List.set_cons_succ]
                refine takeV (i := 19) (d := 45) (v := .agg (patC q.1 A3 q.2.1.length c3 A4 q.2.2.length c4).toArray) rfl (by kernel_rfl) (by kernel_rfl) (by kernel_rfl) (fun _ _ _ h => h) rfl (fun w' h => exMid rfl (RQW.out w' h) underPat rfl infoPat) B21.out ?_
                simp only [Act.put, List.setIfInBounds_toArray, List.set_cons_zero, List.set_cons_succ]
                refine wpAnyH_all (rs := [20]) (by kernel_rfl) (by simp) ?_
                intro i hi
                simp only [List.mem_cons, List.not_mem_nil, or_false] at hi
                subst hi
                refine wpOp_of rfl rfl (wp_called (args := #[.agg (patC p.1 A1 p.2.1.length c1 A2 p.2.2.length c2).toArray, .agg (patC q.1 A3 q.2.1.length c3 A4 q.2.2.length c4).toArray]) hcS (by simp only [List.map_toArray, List.map_cons, List.map_nil]; rfl) (HS.out w21 B21.out) ?_)
                rintro e w_1 ⟨rfl, h_2⟩
                refine ⟨_, rfl, ext_trans B21.out h_2, ?_⟩
                simp only [Act.put, List.setIfInBounds_toArray, List.set_cons_zero, List.set_cons_succ]
                have B_3 := Lib.hid (ext_trans B21.out h_2)
                clear B21
                clear h_2
                refine takeV (i := 21) (d := 47) (v := .bool false) rfl (by kernel_rfl) (by kernel_rfl) (by kernel_rfl) (fun _ _ _ h => h) rfl (fun _ _ => exNot (b := true) rfl) B_3.out ?_
                simp only [Act.put, List.setIfInBounds_toArray, List.set_cons_zero, List.set_cons_succ]
                refine takeV (i := 22) (d := 48) (v := .bool false) rfl (by kernel_rfl) (by kernel_rfl) (by kernel_rfl) (fun _ _ _ h => h) rfl (fun _ _ => exPickT (v := .bool false) rfl rfl) B_3.out ?_
                simp only [Act.put, List.setIfInBounds_toArray, List.set_cons_zero, List.set_cons_succ]
                refine wpAnyH_done (by kernel_rfl) ?_ _
                have BF := Lib.hid (B.out.trans (B_3.out.mono B.out.size))
                clear B_3
                clear RPW RQW HS EQ IK IJ PQ PP5 RQ RP5
                go_wp2_with fail
                go_roundw
                case rel => exact ⟨j + 1, by omega, by go_num, OI.out.snoc hq.out (fun _ => hpq.out), BF.out⟩
                case measure => simp [intOf]; omega
              · rw [decide_eq_false hpq] at HS
                replace hpq := Lib.hid hpq
                replace hid := Lib.hid hid
                refine takeV (i := 0) (d := 26) (v := .slice (some ⟨b, o, none⟩) n c) rfl (by kernel_rfl) (by kernel_rfl) (by kernel_rfl) (fun _ _ _ h => h) rfl (fun _ _ => exMove (v := .slice (some ⟨b, o, none⟩) n c) rfl) B21.out ?_
                simp only [Act.put, List.setIfInBounds_toArray, List.set_cons_zero, List.set_cons_succ]
                refine takeV (i := 1) (d := 27) (v := .int .i64 (k : Int)) rfl (by kernel_rfl) (by kernel_rfl) (by kernel_rfl) (fun _ _ _ h => h) rfl (fun _ _ => exMove (v := .int .i64 (k : Int)) rfl) B21.out ?_
                simp only [Act.put, List.setIfInBounds_toArray, List.set_cons_zero, List.set_cons_succ]
                refine takeV (i := 2) (d := 28) (v := .pointer (some ⟨b, o + k * 4, none⟩)) rfl (by kernel_rfl) (by kernel_rfl) (by kernel_rfl) (fun _ _ _ h => h) rfl (fun w' _ => exIndex rfl rfl (IK.out w')) B21.out ?_
                simp only [Act.put, List.setIfInBounds_toArray, List.set_cons_zero, List.set_cons_succ]
                refine takeV (i := 3) (d := 29) (v := .pointer (some ⟨b, o + k * 4, none⟩)) rfl (by kernel_rfl) (by kernel_rfl) (by kernel_rfl) (fun _ _ _ h => h) rfl (fun w' _ => exField rfl (FX b (o + k * 4) w')) B21.out ?_
                simp only [Act.put, List.setIfInBounds_toArray, List.set_cons_zero, List.set_cons_succ]
                refine takeV (i := 4) (d := 30) (v := .agg (encP p.1).toArray) rfl (by kernel_rfl) (by kernel_rfl) (by kernel_rfl) (fun _ _ _ h => h) rfl (fun w' h => exMid rfl (pid_range (RPW.out w' h)) underPid rfl infoPid) B21.out ?_
                simp only [Act.put, List.setIfInBounds_toArray, List.set_cons_zero, List.set_cons_succ]
                refine takeV (i := 5) (d := 31) (v := .slice (some ⟨b, o, none⟩) n c) rfl (by kernel_rfl) (by kernel_rfl) (by kernel_rfl) (fun _ _ _ h => h) rfl (fun _ _ => exMove (v := .slice (some ⟨b, o, none⟩) n c) rfl) B21.out ?_
                simp only [Act.put, List.setIfInBounds_toArray, List.set_cons_zero, List.set_cons_succ]
                refine takeV (i := 6) (d := 32) (v := .int .i64 (j : Int)) rfl (by kernel_rfl) (by kernel_rfl) (by kernel_rfl) (fun _ _ _ h => h) rfl (fun _ _ => exMove (v := .int .i64 (j : Int)) rfl) B21.out ?_
                simp only [Act.put, List.setIfInBounds_toArray, List.set_cons_zero, List.set_cons_succ]
                refine takeV (i := 7) (d := 33) (v := .pointer (some ⟨b, o + j * 4, none⟩)) rfl (by kernel_rfl) (by kernel_rfl) (by kernel_rfl) (fun _ _ _ h => h) rfl (fun w' _ => exIndex rfl rfl (IJ.out w')) B21.out ?_
                simp only [Act.put, List.setIfInBounds_toArray, List.set_cons_zero, List.set_cons_succ]
                refine takeV (i := 8) (d := 34) (v := .pointer (some ⟨b, o + j * 4, none⟩)) rfl (by kernel_rfl) (by kernel_rfl) (by kernel_rfl) (fun _ _ _ h => h) rfl (fun w' _ => exField rfl (FX b (o + j * 4) w')) B21.out ?_
                simp only [Act.put, List.setIfInBounds_toArray, List.set_cons_zero, List.set_cons_succ]
                refine takeV (i := 9) (d := 35) (v := .agg (encP q.1).toArray) rfl (by kernel_rfl) (by kernel_rfl) (by kernel_rfl) (fun _ _ _ h => h) rfl (fun w' h => exMid rfl (pid_range (RQW.out w' h)) underPid rfl infoPid) B21.out ?_
                simp only [Act.put, List.setIfInBounds_toArray, List.set_cons_zero, List.set_cons_succ]
                refine takeV (i := 10) (d := 36) (v := .bool true) rfl (by kernel_rfl) (by kernel_rfl) (by kernel_rfl) (fun _ _ _ h => h) rfl (fun w' _ => exBin rfl rfl (eqg20 _ _ _ _ _) (EQ.out w')) B21.out ?_
                simp only [Act.put, List.setIfInBounds_toArray, List.set_cons_zero, List.set_cons_succ]
                refine takeV (i := 11) (d := 37) (v := .bool true) rfl (by kernel_rfl) (by kernel_rfl) (by kernel_rfl) (fun _ _ _ h => h) rfl (fun _ _ => exMove (v := .bool true) rfl) B21.out ?_
                simp only [Act.put, List.setIfInBounds_toArray, List.set_cons_zero, List.set_cons_succ]
                refine takeV (i := 12) (d := 38) (v := .slice (some ⟨b, o, none⟩) n c) rfl (by kernel_rfl) (by kernel_rfl) (by kernel_rfl) (fun _ _ _ h => h) rfl (fun _ _ => exMove (v := .slice (some ⟨b, o, none⟩) n c) rfl) B21.out ?_
                simp only [Act.put, List.setIfInBounds_toArray, List.set_cons_zero, List.set_cons_succ]
                refine takeV (i := 13) (d := 39) (v := .int .i64 (k : Int)) rfl (by kernel_rfl) (by kernel_rfl) (by kernel_rfl) (fun _ _ _ h => h) rfl (fun _ _ => exMove (v := .int .i64 (k : Int)) rfl) B21.out ?_
                simp only [Act.put, List.setIfInBounds_toArray, List.set_cons_zero, List.set_cons_succ]
                refine takeV (i := 14) (d := 40) (v := .pointer (some ⟨b, o + k * 4, none⟩)) rfl (by kernel_rfl) (by kernel_rfl) (by kernel_rfl) (fun _ _ _ h => h) rfl (fun w' _ => exIndex rfl rfl (IK.out w')) B21.out ?_
                simp only [Act.put, List.setIfInBounds_toArray, List.set_cons_zero, List.set_cons_succ]
                refine takeV (i := 15) (d := 41) (v := .agg (patC p.1 A1 p.2.1.length c1 A2 p.2.2.length c2).toArray) rfl (by kernel_rfl) (by kernel_rfl) (by kernel_rfl) (fun _ _ _ h => h) rfl (fun w' h => exMid rfl (RPW.out w' h) underPat rfl infoPat) B21.out ?_
                simp only [Act.put, List.setIfInBounds_toArray, List.set_cons_zero, List.set_cons_succ]
                refine takeV (i := 16) (d := 42) (v := .slice (some ⟨b, o, none⟩) n c) rfl (by kernel_rfl) (by kernel_rfl) (by kernel_rfl) (fun _ _ _ h => h) rfl (fun _ _ => exMove (v := .slice (some ⟨b, o, none⟩) n c) rfl) B21.out ?_
                simp only [Act.put, List.setIfInBounds_toArray, List.set_cons_zero, List.set_cons_succ]
                refine takeV (i := 17) (d := 43) (v := .int .i64 (j : Int)) rfl (by kernel_rfl) (by kernel_rfl) (by kernel_rfl) (fun _ _ _ h => h) rfl (fun _ _ => exMove (v := .int .i64 (j : Int)) rfl) B21.out ?_
                simp only [Act.put, List.setIfInBounds_toArray, List.set_cons_zero, List.set_cons_succ]
                refine takeV (i := 18) (d := 44) (v := .pointer (some ⟨b, o + j * 4, none⟩)) rfl (by kernel_rfl) (by kernel_rfl) (by kernel_rfl) (fun _ _ _ h => h) rfl (fun w' _ => exIndex rfl rfl (IJ.out w')) B21.out ?_
                simp only [Act.put, List.setIfInBounds_toArray, List.set_cons_zero, List.set_cons_succ]
                refine takeV (i := 19) (d := 45) (v := .agg (patC q.1 A3 q.2.1.length c3 A4 q.2.2.length c4).toArray) rfl (by kernel_rfl) (by kernel_rfl) (by kernel_rfl) (fun _ _ _ h => h) rfl (fun w' h => exMid rfl (RQW.out w' h) underPat rfl infoPat) B21.out ?_
                simp only [Act.put, List.setIfInBounds_toArray, List.set_cons_zero, List.set_cons_succ]
                refine wpAnyH_all (rs := [20]) (by kernel_rfl) (by simp) ?_
                intro i hi
                simp only [List.mem_cons, List.not_mem_nil, or_false] at hi
                subst hi
                refine wpOp_of rfl rfl (wp_called (args := #[.agg (patC p.1 A1 p.2.1.length c1 A2 p.2.2.length c2).toArray, .agg (patC q.1 A3 q.2.1.length c3 A4 q.2.2.length c4).toArray]) hcS (by simp only [List.map_toArray, List.map_cons, List.map_nil]; rfl) (HS.out w21 B21.out) ?_)
                rintro e w_1 ⟨rfl, h_2⟩
                refine ⟨_, rfl, ext_trans B21.out h_2, ?_⟩
                simp only [Act.put, List.setIfInBounds_toArray, List.set_cons_zero, List.set_cons_succ]
                have B_3 := Lib.hid (ext_trans B21.out h_2)
                clear B21
                clear h_2
                refine takeV (i := 21) (d := 47) (v := .bool true) rfl (by kernel_rfl) (by kernel_rfl) (by kernel_rfl) (fun _ _ _ h => h) rfl (fun _ _ => exNot (b := false) rfl) B_3.out ?_
                simp only [Act.put, List.setIfInBounds_toArray, List.set_cons_zero, List.set_cons_succ]
                refine takeV (i := 22) (d := 48) (v := .bool true) rfl (by kernel_rfl) (by kernel_rfl) (by kernel_rfl) (fun _ _ _ h => h) rfl (fun _ _ => exPickT (v := .bool true) rfl rfl) B_3.out ?_
                simp only [Act.put, List.setIfInBounds_toArray, List.set_cons_zero, List.set_cons_succ]
                refine wpAnyH_done (by kernel_rfl) ?_ _
                have BF := Lib.hid (B.out.trans (B_3.out.mono B.out.size))
                clear B_3
                clear RPW RQW HS EQ IK IJ PQ PP5 RQ RP5
                go_wp2_with fail
                refine (HW.out _ BF.out).mono ?_
                rintro e w8 ⟨rfl, b8⟩
                have B8 := Lib.hid (BF.out.trans (b8.mono BF.out.size))
                clear b8
                go_wp2
                go_ret
                exact ⟨rfl, B8.out⟩
            · rw [decide_eq_false hid] at EQ
              replace hid := Lib.hid hid
              refine takeV (i := 0) (d := 26) (v := .slice (some ⟨b, o, none⟩) n c) rfl (by kernel_rfl) (by kernel_rfl) (by kernel_rfl) (fun _ _ _ h => h) rfl (fun _ _ => exMove (v := .slice (some ⟨b, o, none⟩) n c) rfl) B21.out ?_
              simp only [Act.put, List.setIfInBounds_toArray, List.set_cons_zero, List.set_cons_succ]
              refine takeV (i := 1) (d := 27) (v := .int .i64 (k : Int)) rfl (by kernel_rfl) (by kernel_rfl) (by kernel_rfl) (fun _ _ _ h => h) rfl (fun _ _ => exMove (v := .int .i64 (k : Int)) rfl) B21.out ?_
              simp only [Act.put, List.setIfInBounds_toArray, List.set_cons_zero, List.set_cons_succ]
              refine takeV (i := 2) (d := 28) (v := .pointer (some ⟨b, o + k * 4, none⟩)) rfl (by kernel_rfl) (by kernel_rfl) (by kernel_rfl) (fun _ _ _ h => h) rfl (fun w' _ => exIndex rfl rfl (IK.out w')) B21.out ?_
              simp only [Act.put, List.setIfInBounds_toArray, List.set_cons_zero, List.set_cons_succ]
              refine takeV (i := 3) (d := 29) (v := .pointer (some ⟨b, o + k * 4, none⟩)) rfl (by kernel_rfl) (by kernel_rfl) (by kernel_rfl) (fun _ _ _ h => h) rfl (fun w' _ => exField rfl (FX b (o + k * 4) w')) B21.out ?_
              simp only [Act.put, List.setIfInBounds_toArray, List.set_cons_zero, List.set_cons_succ]
              refine takeV (i := 4) (d := 30) (v := .agg (encP p.1).toArray) rfl (by kernel_rfl) (by kernel_rfl) (by kernel_rfl) (fun _ _ _ h => h) rfl (fun w' h => exMid rfl (pid_range (RPW.out w' h)) underPid rfl infoPid) B21.out ?_
              simp only [Act.put, List.setIfInBounds_toArray, List.set_cons_zero, List.set_cons_succ]
              refine takeV (i := 5) (d := 31) (v := .slice (some ⟨b, o, none⟩) n c) rfl (by kernel_rfl) (by kernel_rfl) (by kernel_rfl) (fun _ _ _ h => h) rfl (fun _ _ => exMove (v := .slice (some ⟨b, o, none⟩) n c) rfl) B21.out ?_
              simp only [Act.put, List.setIfInBounds_toArray, List.set_cons_zero, List.set_cons_succ]
              refine takeV (i := 6) (d := 32) (v := .int .i64 (j : Int)) rfl (by kernel_rfl) (by kernel_rfl) (by kernel_rfl) (fun _ _ _ h => h) rfl (fun _ _ => exMove (v := .int .i64 (j : Int)) rfl) B21.out ?_
              simp only [Act.put, List.setIfInBounds_toArray, List.set_cons_zero, List.set_cons_succ]
              refine takeV (i := 7) (d := 33) (v := .pointer (some ⟨b, o + j * 4, none⟩)) rfl (by kernel_rfl) (by kernel_rfl) (by kernel_rfl) (fun _ _ _ h => h) rfl (fun w' _ => exIndex rfl rfl (IJ.out w')) B21.out ?_
              simp only [Act.put, List.setIfInBounds_toArray, List.set_cons_zero, List.set_cons_succ]
              refine takeV (i := 8) (d := 34) (v := .pointer (some ⟨b, o + j * 4, none⟩)) rfl (by kernel_rfl) (by kernel_rfl) (by kernel_rfl) (fun _ _ _ h => h) rfl (fun w' _ => exField rfl (FX b (o + j * 4) w')) B21.out ?_
              simp only [Act.put, List.setIfInBounds_toArray, List.set_cons_zero, List.set_cons_succ]
              refine takeV (i := 9) (d := 35) (v := .agg (encP q.1).toArray) rfl (by kernel_rfl) (by kernel_rfl) (by kernel_rfl) (fun _ _ _ h => h) rfl (fun w' h => exMid rfl (pid_range (RQW.out w' h)) underPid rfl infoPid) B21.out ?_
              simp only [Act.put, List.setIfInBounds_toArray, List.set_cons_zero, List.set_cons_succ]
              refine takeV (i := 10) (d := 36) (v := .bool false) rfl (by kernel_rfl) (by kernel_rfl) (by kernel_rfl) (fun _ _ _ h => h) rfl (fun w' _ => exBin rfl rfl (eqg20 _ _ _ _ _) (EQ.out w')) B21.out ?_
              simp only [Act.put, List.setIfInBounds_toArray, List.set_cons_zero, List.set_cons_succ]
              refine takeV (i := 11) (d := 37) (v := .bool false) rfl (by kernel_rfl) (by kernel_rfl) (by kernel_rfl) (fun _ _ _ h => h) rfl (fun _ _ => exMove (v := .bool false) rfl) B21.out ?_
              simp only [Act.put, List.setIfInBounds_toArray, List.set_cons_zero, List.set_cons_succ]
              refine takeSkip (i := 12) (d := 38) rfl (by kernel_rfl) (by kernel_rfl) (by kernel_rfl) (fun _ _ _ h => h) rfl B21.out ?_
              simp only [Act.put, List.setIfInBounds_toArray, List.set_cons_zero, List.set_cons_succ]
              refine takeSkip (i := 13) (d := 39) rfl (by kernel_rfl) (by kernel_rfl) (by kernel_rfl) (fun _ _ _ h => h) rfl B21.out ?_
              simp only [Act.put, List.setIfInBounds_toArray, List.set_cons_zero, List.set_cons_succ]
              refine takeSkip (i := 14) (d := 40) rfl (by kernel_rfl) (by kernel_rfl) (by kernel_rfl) (fun _ _ _ h => h) rfl B21.out ?_
              simp only [Act.put, List.setIfInBounds_toArray, List.set_cons_zero, List.set_cons_succ]
              refine takeSkip (i := 15) (d := 41) rfl (by kernel_rfl) (by kernel_rfl) (by kernel_rfl) (fun _ _ _ h => h) rfl B21.out ?_
              simp only [Act.put, List.setIfInBounds_toArray, List.set_cons_zero, List.set_cons_succ]
              refine takeSkip (i := 16) (d := 42) rfl (by kernel_rfl) (by kernel_rfl) (by kernel_rfl) (fun _ _ _ h => h) rfl B21.out ?_
              simp only [Act.put, List.setIfInBounds_toArray, List.set_cons_zero, List.set_cons_succ]
              refine takeSkip (i := 17) (d := 43) rfl (by kernel_rfl) (by kernel_rfl) (by kernel_rfl) (fun _ _ _ h => h) rfl B21.out ?_
              simp only [Act.put, List.setIfInBounds_toArray, List.set_cons_zero, List.set_cons_succ]
              refine takeSkip (i := 18) (d := 44) rfl (by kernel_rfl) (by kernel_rfl) (by kernel_rfl) (fun _ _ _ h => h) rfl B21.out ?_
              simp only [Act.put, List.setIfInBounds_toArray, List.set_cons_zero, List.set_cons_succ]
              refine takeSkip (i := 19) (d := 45) rfl (by kernel_rfl) (by kernel_rfl) (by kernel_rfl) (fun _ _ _ h => h) rfl B21.out ?_
              simp only [Act.put, List.setIfInBounds_toArray, List.set_cons_zero, List.set_cons_succ]
              refine takeSkip (i := 20) (d := 46) rfl (by kernel_rfl) (by kernel_rfl) (by kernel_rfl) (fun _ _ _ h => h) rfl B21.out ?_
              simp only [Act.put, List.setIfInBounds_toArray, List.set_cons_zero, List.set_cons_succ]
              refine takeSkip (i := 21) (d := 47) rfl (by kernel_rfl) (by kernel_rfl) (by kernel_rfl) (fun _ _ _ h => h) rfl B21.out ?_
              simp only [Act.put, List.setIfInBounds_toArray, List.set_cons_zero, List.set_cons_succ]
              refine takeV (i := 22) (d := 48) (v := .bool false) rfl (by kernel_rfl) (by kernel_rfl) (by kernel_rfl) (fun _ _ _ h => h) rfl (fun _ _ => exPickF (v := .bool false) rfl rfl) B21.out ?_
              simp only [Act.put, List.setIfInBounds_toArray, List.set_cons_zero, List.set_cons_succ]
              refine wpAnyH_done (by kernel_rfl) ?_ _
              have BF := Lib.hid (B.out.trans (B21.out.mono B.out.size))
              clear B21
              clear RPW RQW HS EQ IK IJ PQ PP5 RQ RP5
              go_wp2_with fail
              go_roundw
              case rel => exact ⟨j + 1, by omega, by go_num, OI.out.snoc hq.out (fun e => absurd e hid.out), BF.out⟩
              case measure => simp [intOf]; omega
          · have hjk : ¬ (j : Int) < (k : Int) := by omega
            obtain rfl : j = k := by omega
            have ON1 := Lib.hid (ON.out.snoc hp.out OI.out)
            go_wp2_with fail
            go_roundw
            case rel => exact ⟨j + 1, by omega, by go_num, ON1.out, B.out⟩
            case measure => simp [intOf]; omega
      · have hlk : ¬ (k : Int) < (n : Int) := by omega
        obtain rfl : k = n := by omega
        have hone : Hid (∀ p ∈ l, ∀ q ∈ l, p.1 = q.1 → p = q) := OneN.all (by rw [hln.out]; exact ON.out)
        have HT := Lib.hid (turns_all f hone.out)
        clear hone ON
        go_wp2_with fail
        refine (new20_any _).mono ?_
        rintro e w4 ⟨Fa, ga, rfl, hA, hFa, b4⟩
        have GA := Lib.hid hA
        have B4 := Lib.hid (B.out.trans (b4.mono B.out.size))
        have hFaw : Hid (∀ k, Fa k → w.heap.size ≤ k) := fun k e => Nat.le_trans B.out.size (hFa k e)
        have hFa4 := Lib.hid hA.mem.lt
        clear hA hFa b4 B
        go_wp2_with fail
        refine (new20_any _).mono ?_
        rintro e w5 ⟨Fb, gb, rfl, hB, hFb, b5⟩
        have GA := Lib.hid (GA.out.ext b5)
        have GB := Lib.hid hB
        have B5 := Lib.hid (B4.out.trans (b5.mono B4.out.size))
        have hFbw : Hid (∀ k, Fb k → w.heap.size ≤ k) := fun k e => Nat.le_trans B4.out.size (hFb k e)
        have hd : Hid (∀ k, Fa k → ¬ Fb k) := fun k e1 e2 => Nat.not_lt.2 (hFb k e2) (hFa4.out k e1)
        clear hB hFb b5 B4 hFa4
        obtain ⟨m, hmm⟩ : ∃ m, m = turnL l f := ⟨_, rfl⟩
        rw [← hmm] at HT
        replace hmm := Lib.hid hmm
        rw [hln.out] at HT
        go_wp2_with fail
        go_loopw [9] (fun i wr => ∃ t : Nat, t ≤ k + 1 ∧ i = .int .i64 t ∧ Hid (GraphAt wr Fa ga (rounds l t)) ∧ Hid (GraphAt wr Fb gb (rounds m t)) ∧ Hid (Below w.heap.size w wr)) (fun i _ => k + 1 - (intOf i).toNat)
        case atStart => exact ⟨0, by omega, rfl, GA.out, GB.out, B5.out⟩
        case round =>
          clear GA GB B5
          obtain ⟨t, ht, rfl, GA, GB, B⟩ := hrel
          have ht0 : (0 : Int) ≤ (t : Int) := by omega
          by_cases htt : t ≤ k
          · have htk : (t : Int) ≤ (k : Int) := by omega
            clear HT
            go_wp2_with fail
            go_loopw [10] (fun i wr => ∃ s : Nat, s ≤ k ∧ i = .int .i64 s ∧ Hid (GraphAt wr Fa ga (runG (rounds l t) (l.take s))) ∧ Hid (GraphAt wr Fb gb (runG (rounds m t) (m.take s))) ∧ Hid (Below w.heap.size w wr)) (fun i _ => k - (intOf i).toNat)
            case atStart => exact ⟨0, by omega, rfl, GA.out, GB.out, B.out⟩
            case round =>
              clear GA GB B
              obtain ⟨s, hs, rfl, GA, GB, B⟩ := hrel
              obtain ⟨wi, rfl⟩ : ∃ wx, wx = wr := ⟨_, rfl⟩
              have hs0 : (0 : Int) ≤ (s : Int) := by omega
              by_cases hst : s < k
              · have hsk : (s : Int) < (k : Int) := by omega
                obtain ⟨b, o, p, r, rfl, hb, hp, pa, R⟩ := H0.out.at_ hst
                have hti : turnI k f s < k := turnI_lt (by omega)
                obtain ⟨b', o', q, r', e', hb', hq, qa, R'⟩ := H0.out.at_ hti
                cases e'
                obtain ⟨u, hu⟩ : ∃ u, u = turnI k f s := ⟨_, rfl⟩
                rw [← hu] at hq R' hti
                have hqm : Hid (m[s]? = some q) := by
                  rw [hmm.out]
                  exact turnL_at (by rw [hln.out]; exact hst) (by rw [hln.out, ← hu]; exact hq)
                have PI := Lib.hid (pa.in_.ext B.out)
                have QI := Lib.hid (qa.in_.ext B.out)
                have RP := Lib.hid (rangeAt_below R B.out hb)
                have RQ := Lib.hid (rangeAt_below R' B.out hb')
                have hbw := Lib.hid hb
                obtain ⟨⟨A1, c1, A2, c2, rfl, _, _⟩, _, _⟩ := pa
                obtain ⟨⟨A3, c3, A4, c4, rfl, _, _⟩, _, _⟩ := qa
                have LP := Lib.hid (runG_snoc (rounds l t) hp)
                have LQ := Lib.hid (runG_snoc (rounds m t) hqm.out)
                have hA1 := Lib.hid (apply20_any GA.out p _ PI.out (fun x (h1 : x < w.heap.size) h2 => Nat.not_lt.2 (hFaw.out x h2) h1))
                clear R R' hb hb' hp hq hqm
                have hu0 : (0 : Int) ≤ (u : Int) := by omega
                have huk : (u : Int) < (k : Int) := by omega
                have hk1 : ((k : Int) == 0) = false := by rw [beq_eq_false_iff_ne]; omega
                have hw1 : IntKind.i64.wrap ((k : Int) - 1) = (k : Int) - 1 := by rw [IntKind.wrap_i64]; omega
                have hw2 : IntKind.i64.wrap ((k : Int) - 1 - (s : Int)) = (k : Int) - 1 - (s : Int) := by rw [IntKind.wrap_i64]; omega
                have hw3 : IntKind.i64.wrap (f : Int) = (f : Int) := by have := hf256.out; rw [IntKind.wrap_i64]; omega
                have hw4 : IntKind.i64.wrap ((k : Int) - 1 - (s : Int) + (f : Int)) = ((k - 1 - s + f : Nat) : Int) := by have := hf256.out; rw [IntKind.wrap_i64]; omega
                have hw5 : Int.tmod ((k - 1 - s + f : Nat) : Int) (k : Int) = (u : Int) := by
                  rw [Int.tmod_eq_emod_of_nonneg (by omega), hu]
                  exact (Int.natCast_emod _ _).symm
                have hu2 : (k - 1 - s + f) % k = u := hu.symm
                have hw6 : (((k - 1 - s : Nat) : Int) + (f : Int)) % (k : Int) = (u : Int) := by
                  rw [hu]; unfold turnI; rw [Int.natCast_emod, Int.natCast_add]
                replace hw6 := Lib.hid hw6
                replace hu2 := Lib.hid hu2
                replace hu := Lib.hid hu
                replace hw5 := Lib.hid hw5
                go_wp2_with (refine wpList_load_mid rfl 31 _ (by rfl) b (o + s * 4) (by rfl) _ _ RP.out underPat rfl infoPat ?_)
                refine hA1.out.mono ?_
                rintro e w6 ⟨rfl, kp, hG⟩
                have kpb := Lib.hid (kp.stay (G := fun x => x < w.heap.size) fun x _ h1 h2 => Nat.not_lt.2 (hFaw.out x h2) h1)
                have GA6 := Lib.hid hG
                have GB6 := Lib.hid (GB.out.stay (kp.stay fun x _ h1 h2 => hd.out x h2 h1))
                have B6 := Lib.hid (B.out.trans (kp.below (B := w.heap.size) hFaw.out B.out.size))
                have QI6 := Lib.hid (QI.out.stay kpb.out)
                have RQ6 := Lib.hid (rangeAt_keep RQ.out fun j => World.cell?_of_block (a := ⟨b, j, none⟩) (kpb.out.2 b (Nat.lt_of_lt_of_le hbw.out B.out.size) hbw.out))
                have hB1 := Lib.hid (apply20_any GB6.out q _ QI6.out (fun x (h1 : x < w.heap.size) h2 => Nat.not_lt.2 (hFbw.out x h2) h1))
                clear hG kp kpb hA1 GA GB RP RQ PI QI B
                have hu2 := hu2.out
                have hw5 := hw5.out
                have hw6 := hw6.out
                go_wp2_with (refine wpList_load_mid rfl 31 _ (by rfl) b (o + u * 4) (by rfl) _ _ RQ6.out underPat rfl infoPat ?_)
                refine hB1.out.mono ?_
                rintro e w7 ⟨rfl, kp, hG⟩
                have GB7 := Lib.hid hG
                have GA7 := Lib.hid (GA6.out.stay (kp.stay fun x _ h1 h2 => hd.out x h1 h2))
                have B7 := Lib.hid (B6.out.trans (kp.below (B := w.heap.size) hFbw.out B6.out.size))
                clear hG kp hB1 GA6 GB6 B6 QI6 RQ6
                go_wp2_with fail
                go_roundw
                case rel => exact ⟨s + 1, by omega, by go_num, by rw [LP.out]; exact GA7.out, by rw [LQ.out]; exact GB7.out, B7.out⟩
                case measure => simp [intOf]; omega
              · have hsk : ¬ (s : Int) < (k : Int) := by omega
                have hml : Hid (m.length = k) := by rw [hmm.out, turnL_len]; exact hln.out
                have GA7 : Hid (GraphAt wi Fa ga (rounds l (t + 1))) := by
                  have h1 := GA.out
                  rw [List.take_of_length_le (by rw [hln.out]; omega)] at h1
                  exact h1
                have GB7 : Hid (GraphAt wi Fb gb (rounds m (t + 1))) := by
                  have h1 := GB.out
                  rw [List.take_of_length_le (by rw [hml.out]; omega)] at h1
                  exact h1
                clear GA GB hml
                go_wp2_with fail
                go_roundw
                case rel => exact ⟨t + 1, by omega, by go_num, GA7.out, GB7.out, B.out⟩
                case measure => simp [intOf]; omega
          · have htk : ¬ (t : Int) ≤ (k : Int) := by omega
            obtain ⟨wz, rfl⟩ : ∃ wx, wx = wr := ⟨_, rfl⟩
            have hte : t = k + 1 := by omega
            rw [hte] at GA GB
            have hla : (rounds l (k + 1)).length ≤ 12 := by have := rounds_len l (k + 1); have := hln.out; omega
            have hlb : (rounds m (k + 1)).length ≤ 12 := by have h1 := rounds_len m (k + 1); rw [hmm.out, turnL_len] at h1; rw [hmm.out]; have := hln.out; omega
            have hoa : ∀ p ∈ rounds l (k + 1), p.2.2.length ≤ 60 := fun p hp => hop.out p (rounds_mem l _ p hp)
            have hob : ∀ p ∈ rounds m (k + 1), p.2.2.length ≤ 60 := fun p hp => hop.out p (by have h1 := rounds_mem m _ p hp; rw [hmm.out] at h1; exact (turnL_mem l f p).2 h1)
            have HG1 := Lib.hid (fun (u : World) (hu : Below wz.heap.size wz u) => fgraph_at (GA.out.ext hu) hla hoa (HSK.out u (B.out.trans (hu.mono B.out.size))) (HSB.out u (B.out.trans (hu.mono B.out.size))))
            have HG2 := Lib.hid (fun (u : World) (hu : Below wz.heap.size wz u) => fgraph_at (GB.out.ext hu) hlb hob (HSK.out u (B.out.trans (hu.mono B.out.size))) (HSB.out u (B.out.trans (hu.mono B.out.size))))
            rw [fgS_same HT.out] at HG2
            have HCP := Lib.hid (fun (u : World) (hu : Below wz.heap.size wz u) => gcopy_any (GA.out.ext hu))
            have HGC := Lib.hid (fun (u : World) (F' : Nat → Prop) (g' : Nat) (hu : Below w.heap.size w u) (hG : GraphAt u F' g' (rounds l (k + 1))) => fgraph_at hG hla hoa (HSK.out u hu) (HSB.out u hu))
            have HGN := Lib.hid (fun (u : World) (hu : Below w.heap.size w u) => fgraph_nil u (HSK.out u hu) (HSB.out u hu))
            have HGE := Lib.hid (fun (u : World) (F' : Nat → Prop) (g' : Nat) (hu : Below w.heap.size w u) (hG : GraphAt u F' g' []) => fgraph_at hG (by simp) (by simp) (HSK.out u hu) (HSB.out u hu))
            have EQ : ∀ u : World, (binOp .eql 37 (.agg (bytesS (fgS (rounds l (k + 1))))) (.agg (bytesS (fgS (rounds l (k + 1)))))).run Tryz.prog u = .ok (.bool true) u := fun u => eqF _ (fgS_len _) u
            have EQN : ∀ u : World, (binOp .eql 37 (.agg (bytesS (fgS []))) (.agg (bytesS (fgS [])))).run Tryz.prog u = .ok (.bool true) u := fun u => eqF _ (fgS_len _) u
            clear GA GB HT hte hla hlb hoa hob
            generalize bytesS (fgS (rounds l (k + 1))) = V at *
            generalize bytesS (fgS []) = V0 at *
            go_wp2_with fail
            refine (HG1.out wz (Below.refl _ _)).mono ?_
            rintro e w8 ⟨rfl, b8⟩
            have B8 := Lib.hid b8
            clear b8
            go_wp2_with fail
            refine (HG2.out w8 B8.out).mono ?_
            rintro e w9 ⟨rfl, b9⟩
            have B9 := Lib.hid (ext_trans B8.out b9)
            clear b9 HG2 B8
            go_wp2_with fail
            refine (HG1.out w9 B9.out).mono ?_
            rintro e w10 ⟨rfl, b10⟩
            have B10 := Lib.hid (ext_trans B9.out b10)
            clear b10 HG1 B9
            go_wp2_with fail
            refine (HCP.out w10 B10.out).mono ?_
            rintro e w11 ⟨F', g', rfl, hGc, _, b11⟩
            have GC := Lib.hid hGc
            have B11 := Lib.hid (B.out.trans ((ext_trans B10.out b11).mono B.out.size))
            clear b11 HCP hGc B10
            go_wp2_with fail
            refine (HGC.out w11 F' g' B11.out GC.out).mono ?_
            rintro e w12 ⟨rfl, b12⟩
            have B12 := Lib.hid (B11.out.trans (b12.mono B11.out.size))
            clear b12 HGC B11 GC
            go_wp2_with fail
            refine (HGN.out w12 B12.out).mono ?_
            rintro e w13 ⟨rfl, b13⟩
            have B13 := Lib.hid (B12.out.trans (b13.mono B12.out.size))
            clear b13 HGN B12
            go_wp2_with fail
            refine (new20_any w13).mono ?_
            rintro e w14 ⟨F2, g2, rfl, hGn, _, b14⟩
            have GN := Lib.hid hGn
            have B14 := Lib.hid (B13.out.trans (b14.mono B13.out.size))
            clear b14 hGn B13
            go_wp2_with fail
            refine (HGE.out w14 F2 g2 B14.out GN.out).mono ?_
            rintro e w15 ⟨rfl, b15⟩
            have B15 := Lib.hid (B14.out.trans (b15.mono B14.out.size))
            clear b15 HGE B14 GN
            go_wp2_with fail
            refine (HW.out w15 B15.out).mono ?_
            rintro e w16 ⟨rfl, b16⟩
            have B16 := Lib.hid (B15.out.trans (b16.mono B15.out.size))
            clear b16
            go_wp2
            go_ret
            exact ⟨rfl, B16.out⟩
end Go.Proofs.YtihggkmjalofiaaGreatDoor
