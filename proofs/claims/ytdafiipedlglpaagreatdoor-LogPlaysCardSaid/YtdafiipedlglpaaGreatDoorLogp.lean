/- Whatever is appended, made sure, and lost, is as the document says: walked. -/
import Derived.Test.YtdafiipedlglpaaGreatDoorLogn
namespace Go.Proofs.YtdafiipedlglpaaGreatDoor
open Go.RowKit

theorem neStr30 (S : ByteArray) (w : World) : (binOp .neq 9 (.string S) (.string S)).run Tryz.prog w = .ok (.bool false) w := by simp [go_sem]
theorem neInt30 (z : Int) (w : World) : (binOp .neq 3 (.int .i64 z) (.int .i64 z)).run Tryz.prog w = .ok (.bool false) w := by simp [go_sem]
set_option maxRecDepth 100000 in
set_option maxHeartbeats 8000000 in
theorem logPlays_walk (w : World) (l : List Act30) (A : Option Addr) (n c : Nat) (hm : n ≤ maxLen) (h : Acts30At w A n l) (hFo : FourOk w) :
    Calls Tryz.prog 7 #[.slice A n c] w (RetB w (.bool true)) := by
  have HF := Lib.hid (few30_any l w A n c h hm)
  have H := Lib.hid h
  have FO := Lib.hid hFo
  have hln := Lib.hid h.len
  clear h hFo
  go_enter Tryz.func7, Tryz.ntmps7
  obtain ⟨few, hfew⟩ : ∃ b, b = fewA30 l := ⟨_, rfl⟩
  rw [← hfew] at HF
  cases few
  · clear hfew
    go_wp2_with fail
    refine HF.out.mono ?_
    rintro e w3 ⟨rfl, b3⟩
    have F3 := Lib.hid (four_ext FO.out b3)
    go_wp2_with fail
    refine (works30 _ F3.out).mono ?_
    rintro e w4 ⟨rfl, b4⟩
    have B4 := Lib.hid (b3.trans (b4.mono b3.size))
    clear b3 b4
    go_wp2
    go_ret
    exact ⟨rfl, B4.out⟩
  · have hn30 : n ≤ 30 := by rw [← hln.out]; exact fewA30_len hfew.symm
    clear hfew
    go_wp2_with fail
    refine HF.out.mono ?_
    rintro e w3 ⟨rfl, b3⟩
    have B3 := Lib.hid b3
    clear b3 HF
    go_wp2_with fail
    refine (diskNew_any _).mono ?_
    rintro e w4 ⟨rfl, b4, D4⟩
    obtain ⟨d, hd⟩ : ∃ d, d = w3.heap.size := ⟨_, rfl⟩
    rw [← hd] at D4 ⊢
    have hdw : Hid (w.heap.size ≤ d) := by rw [Hid, hd]; exact B3.out.size
    clear hd
    have B4 := Lib.hid (B3.out.trans (b4.mono B3.out.size))
    have KA : Hid (Blk ((w4.alloc (.cells rdZ 55)).setRow w4.heap.size rdZ) w4.heap.size 55 (rdV (framesB []) 0)) := (Blk.new _ _ _).row _
    have BN : Hid (Below w4.heap.size w4 ((w4.alloc (.cells rdZ 55)).setRow w4.heap.size rdZ)) := below_setRow (below_new w4 _) (Nat.le_refl _) _
    have hdg : Hid (d < w4.heap.size) := D4.lt d rfl
    have D5 := Lib.hid (D4.ext BN.out)
    have B5 := Lib.hid (B4.out.trans (BN.out.mono B4.out.size))
    have hgw : Hid (w.heap.size ≤ w4.heap.size) := B4.out.size
    clear b4 B3 D4 B4 BN
    go_upto_region 4 with (first
      | (refine wpList_built (buildRd00 _) (by rfl) ?_)
      | (refine wpList_alloced (allocRdk _) ?_)
      | (refine wpList_store_row rfl 55 _ _ (by rfl) w4.heap.size rdZ (by rfl) (by rfl) _ _ (Blk.new _ _ _) infoRdk rfl rdZ_one ?_))
    generalize ((w4.alloc (.cells rdZ 55)).setRow w4.heap.size rdZ) = w5 at *
    generalize w4.heap.size = gr at *
    have HO := Lib.hid (logOpenP (qs := []) rfl D5.out (by show 0 ≤ 900000; omega) (four_ext FO.out B5.out) ⟨readL_nil, rfl⟩)
    go_wp2_with fail
    refine HO.out.mono ?_
    rintro e w6 ⟨lb, A0, c0, E6, G6, rfl, kp, L6, -, -, hE, -⟩
    have hgrl := KA.out.lt
    have B6 : Hid (Below w.heap.size w w6) := B5.out.trans (kp.below (fun k e => by have e : k = d := e; rw [e]; exact hdw.out) B5.out.size)
    have hE6 : Hid (∀ k, E6 k → w.heap.size ≤ k ∧ k ≠ gr) := fun k e => by
      have h1 := hdw.out; have h2 := hdg.out; have h3 := B5.out.size
      rcases hE k e with e | e
      · have e : k = d := e
        omega
      · omega
    have K6 := Lib.hid (KA.out.keep (kp.block gr hgrl fun e => by have e : gr = d := e; have := hdg.out; omega))
    have L6 := Lib.hid L6
    clear kp hE B5 HO hdw hdg D5 KA hgrl
    go_wp2_with fail
    go_loopw [5, 7, 8] (fun lv nv iv wr => ∃ (k : Nat) (ps : List PatV) (s : Nat) (E : Nat → Prop) (lb : Nat), k ≤ n ∧ lv = .pointer (some ⟨lb, 0, none⟩) ∧ nv = .int .i64 ((ps.length : Nat) : Int) ∧ iv = .int .i64 k ∧ Hid (∀ q ∈ ps, patB q = true) ∧ ps.length ≤ k ∧ Hid (LogAt wr E lb d (framesB ps) (endsL (withLen ps)) s) ∧ Hid (∀ q, E q → w.heap.size ≤ q ∧ q ≠ gr) ∧ Hid (Blk wr gr 55 (rdV (framesB ps) s)) ∧ Hid (Below w.heap.size w wr)) (fun _ _ iv _ => n - (intOf iv).toNat)
    case atStart => exact ⟨0, [], 0, E6, lb, Nat.zero_le _, rfl, rfl, rfl, fun q h => absurd h (by simp), Nat.le_refl 0, L6.out, hE6.out, K6.out, B6.out⟩
    case round =>
      clear L6 B6 hE6 K6
      obtain ⟨k, ps, s, E, lb, hk, rfl, rfl, rfl, hg, hps, L, hE, K, B⟩ := hrel
      have hk0 : (0 : Int) ≤ (k : Int) := by omega
      by_cases hlt : k < n
      · have hlk : (k : Int) < (n : Int) := by omega
        obtain ⟨b, o, a, r, rfl, hb0, ha, pa, R⟩ := H.out.at_ hlt
        obtain ⟨rp, rfl, hq⟩ := pa.ex
        have hnum := Lib.hid pa.num
        have R0 := Lib.hid R
        have RB := Lib.hid (rangeAt_below R0.out B.out hb0)
        have RP := Lib.hid (act30_pat RB.out)
        have hi4 : (Tryz.prog.info? 64).map (·.size) = some rp.length := by rw [hq.len4]; exact infoPat
        have HQ := Lib.hid hq
        have hb0 := Lib.hid hb0
        have y0 : wr.cell? ⟨b, o + k * 6, none⟩ = some (.int .u8 a.1) := by simpa using RB.out 0 _ rfl
        have y1 : wr.cell? ⟨b, o + k * 6 + 1, none⟩ = some (.int .i64 a.2.1) := RB.out 1 _ rfl
        clear pa hq R ha RB
        obtain ⟨np, hnp⟩ : ∃ m, m = ps.length := ⟨_, rfl⟩
        rw [← hnp] at hps ⊢
        replace hnp := Lib.hid hnp
        have hk1000 : (k : Int) + 1 ≤ 1000 := by omega
        have hn1000 : (np : Int) + 1 ≤ 1000 := by omega
        go_upto_block 2 with fail
        go_cut [5, 7, 9, 10, 11, 12, 13, 14] (fun lv nv _ _ _ _ _ _ wx => ∃ (ps : List PatV) (s : Nat) (E : Nat → Prop) (lb : Nat), lv = .pointer (some ⟨lb, 0, none⟩) ∧ nv = .int .i64 ((ps.length : Nat) : Int) ∧ Hid (∀ q ∈ ps, patB q = true) ∧ ps.length ≤ k + 1 ∧ Hid (LogAt wx E lb d (framesB ps) (endsL (withLen ps)) s) ∧ Hid (∀ q, E q → w.heap.size ≤ q ∧ q ≠ gr) ∧ Hid (Blk wx gr 55 (rdV (framesB ps) s)) ∧ Hid (Below w.heap.size w wx))
        case first =>
          by_cases h0 : a.1 = 0
          · have d0 : (a.1 == 0) = true := beq_iff_eq.2 h0
            clear h0
            have HG := Lib.hid (rgood18_any a.2.2 wr rp (HQ.out.ext B.out))
            obtain ⟨gd, hgd⟩ : ∃ b, b = patB a.2.2 := ⟨_, rfl⟩
            rw [← hgd] at HG
            replace hgd := Lib.hid hgd
            go_wp2_with (refine wpList_load_mid rfl 64 _ (by rfl) b (o + k * 6 + 2) (by rfl) _ _ RP.out underPat rfl hi4 ?_)
            refine HG.out.mono ?_
            rintro e w5 ⟨rfl, b5⟩
            have B5 := Lib.hid (B.out.trans (b5.mono B.out.size))
            have L5 := Lib.hid (L.out.ext b5)
            have K5 := Lib.hid (K.out.ext b5)
            have RP5 := Lib.hid (act30_pat (rangeAt_below R0.out B5.out hb0.out))
            have HA := Lib.hid (logAppendP L5.out hg.out (by rw [← hnp.out]; omega) a.2.2 rp (HQ.out.ext B5.out) (four_ext FO.out B5.out))
            clear b5 HG L K B y0 y1 RP
            go_wp2_with (refine wpList_load_mid rfl 64 _ (by rfl) b (o + k * 6 + 2) (by rfl) _ _ RP5.out underPat rfl hi4 ?_)
            refine HA.out.mono ?_
            rintro e w6 ⟨h1, h2⟩
            rw [← hgd.out] at h1 h2
            cases gd
            · obtain ⟨rfl, b6⟩ := h2 rfl
              have B6 := Lib.hid (B5.out.trans (b6.mono B5.out.size))
              have L6 := Lib.hid (L5.out.ext b6)
              have K6 := Lib.hid (K5.out.ext b6)
              clear h1 h2 hgd b6 HA L5 K5 B5 RP5
              go_wp2_with fail
              go_meet
              case rel => exact ⟨ps, s, E, lb, rfl, by rw [hnp.out], hg.out, by rw [← hnp.out]; omega, L6.out, hE.out, K6.out, B6.out⟩
            · obtain ⟨rfl, kp, E6, L6, hE6⟩ := h1 rfl
              replace hgd := Lib.hid hgd.out.symm
              have K6 := Lib.hid (K5.out.keep (kp.block gr K5.out.lt fun e => (hE.out gr e).2 rfl))
              have B6 := Lib.hid (B5.out.trans (kp.below (fun k e => (hE.out k e).1) B5.out.size))
              have hE6w : Hid (∀ q, E6 q → w.heap.size ≤ q ∧ q ≠ gr) := fun q e => by
                rcases hE6 q e with e | e
                · exact hE.out q e
                · have h1 := K5.out.lt
                  have h2 := B5.out.size
                  omega
              have L6 := Lib.hid L6
              have RP := Lib.hid (act30_pat (rangeAt_below R0.out B6.out hb0.out))
              have HP := Lib.hid (HQ.out.ext B6.out)
              have hb : Hid (b < w6.heap.size) := Nat.lt_of_lt_of_le hb0.out B6.out.size
              have hnp40 : ps.length ≤ 40 := by rw [← hnp.out]; omega
              clear h1 h2 HA L5 K5 B5 RP5 kp hE6
              go_upto_region 16 with fail
              have hcA : ∀ args u, (callFunc 31 args).run Tryz.prog u = .ok (.enter 31 args) u := enters_of Tryz.func31 (by kernel_rfl) rfl
              refine wp_region_Z (S := fun w' => Below w6.heap.size w6 w') (Z := [7]) mixedS ?_
              have B_0 : Hid (Below w6.heap.size w6 w6.drew) := (Below.refl _ _).drew
              change wpAnyZ _ _ _ _ _ _ _ _ _ w6.drew
              generalize w6.drew = wd at *
              simp only [List.size_toArray, List.length_cons, List.length_nil]
              refine zV (i := 0) rfl (by kernel_rfl) (by kernel_rfl) (by kernel_rfl) (by kernel_rfl) (by kernel_rfl) (fun _ _ _ h => h) rfl (fun w' h => exMid rfl (blk_rng30 (K6.out.ext h)) underRdk rfl infoRdk) B_0.out ?_
              simp only [Act.put, List.setIfInBounds_toArray, List.set_cons_zero, List.set_cons_succ]
              refine zV (i := 1) rfl (by kernel_rfl) (by kernel_rfl) (by kernel_rfl) (by kernel_rfl) (by kernel_rfl) (fun _ _ _ h => h) rfl (fun w' h => exMove (v := .slice (some ⟨b, o, none⟩) n c) rfl) B_0.out ?_
              simp only [Act.put, List.setIfInBounds_toArray, List.set_cons_zero, List.set_cons_succ]
              refine zV (i := 2) rfl (by kernel_rfl) (by kernel_rfl) (by kernel_rfl) (by kernel_rfl) (by kernel_rfl) (fun _ _ _ h => h) rfl (fun w' h => exMove (v := .int .i64 ((k : Nat) : Int)) rfl) B_0.out ?_
              simp only [Act.put, List.setIfInBounds_toArray, List.set_cons_zero, List.set_cons_succ]
              refine zV (i := 3) rfl (by kernel_rfl) (by kernel_rfl) (by kernel_rfl) (by kernel_rfl) (by kernel_rfl) (fun _ _ _ h => h) rfl (fun w' h => exIndex rfl rfl (indexActs b o n c k hlt w')) B_0.out ?_
              simp only [Act.put, List.setIfInBounds_toArray, List.set_cons_zero, List.set_cons_succ]
              refine zV (i := 4) rfl (by kernel_rfl) (by kernel_rfl) (by kernel_rfl) (by kernel_rfl) (by kernel_rfl) (fun _ _ _ h => h) rfl (fun w' h => exField rfl (fieldAct2 b (o + k * 6) w')) B_0.out ?_
              simp only [Act.put, List.setIfInBounds_toArray, List.set_cons_zero, List.set_cons_succ]
              refine zV (i := 5) rfl (by kernel_rfl) (by kernel_rfl) (by kernel_rfl) (by kernel_rfl) (by kernel_rfl) (fun _ _ _ h => h) rfl (fun w' h => exMid rfl (rangeAt_below RP.out h hb.out) underPat rfl hi4) B_0.out ?_
              simp only [Act.put, List.setIfInBounds_toArray, List.set_cons_zero, List.set_cons_succ]
              refine wpAnyZ_all (rs := [6]) (by kernel_rfl) (by simp) ?_
              intro i hi
              simp only [List.mem_cons, List.not_mem_nil, or_false] at hi
              subst hi
              refine wpOp_of rfl rfl (wp_called (args := #[.agg (rdV (framesB ps) s), .agg rp.toArray]) hcA (by simp only [List.map_toArray, List.map_cons, List.map_nil]; rfl) (rappendP s hg.out (by omega) a.2.2 hgd.out wd rp (HP.out.ext B_0.out)) ?_)
              rintro e we ⟨rfl, b_1⟩
              have B_1 := Lib.hid (ext_trans B_0.out b_1)
              refine ⟨_, rfl, fun _ => B_1.out, ?_⟩
              simp only [Act.put, List.setIfInBounds_toArray, List.set_cons_zero, List.set_cons_succ]
              have K_1 := Lib.hid (K6.out.ext B_1.out)
              refine wpAnyZ_all (rs := [7]) (by kernel_rfl) (by simp) ?_
              intro i hi
              simp only [List.mem_cons, List.not_mem_nil, or_false] at hi
              subst hi
              refine wpOp_of rfl rfl (wp_stored (cs := rdV (framesB (ps ++ [a.2.2])) s) rfl rfl K_1.out infoRdk rfl (rdV_one _ _) ?_)
              refine ⟨noZ (by kernel_rfl), ?_⟩
              refine wpAnyZ_done (by kernel_rfl) ?_ _
              have hgr : Hid (gr < w6.heap.size) := K6.out.lt
              obtain ⟨p2, hp2⟩ : ∃ p2, p2 = ps ++ [a.2.2] := ⟨_, rfl⟩
              have hl2 : p2.length = np + 1 := by rw [hp2, List.length_append, ← hnp.out]; rfl
              have hgp : Hid (∀ q ∈ p2, patB q = true) := by rw [Hid, hp2]; exact good_snoc hg.out hgd.out
              rw [← hp2] at L6 ⊢
              replace hp2 := Lib.hid hp2
              have kp : Kept (fun k => k = gr) we (we.setRow gr (rdV (framesB p2) s)) := kept_row (fun k => k = gr) we rfl _
              have LF := Lib.hid ((L6.out.ext B_1.out).stay (kp.stay fun q _ e1 e2 => (hE6w.out q e1).2 e2))
              have BF := Lib.hid ((B6.out.trans (B_1.out.mono B6.out.size)).trans (kp.below (fun k e => by have e : k = gr := e; rw [e]; exact hgw.out) (Nat.le_trans B6.out.size B_1.out.size)))
              have KF := Lib.hid (K_1.out.row (rdV (framesB p2) s))
              clear kp L6 B6 B_1 K_1 K6 B_0 hcA RP HP hb hgr hnp40
              generalize (we.setRow gr (rdV (framesB p2) s)) = wf at *
              go_wp2_with fail
              go_meet
              case rel => exact ⟨p2, s, E6, lb, rfl, by rw [hl2]; go_num, hgp.out, by omega, LF.out, hE6w.out, KF.out, BF.out⟩
          · have d0 : (a.1 == 0) = false := beq_eq_false_iff_ne.2 h0
            by_cases h1 : a.1 = 1
            · have d1 : (a.1 == 1) = true := beq_iff_eq.2 h1
              clear h1
              have HY := Lib.hid (logSync_any L.out)
              go_wp2_with fail
              refine HY.out.mono ?_
              rintro e w6 ⟨rfl, kp, E6, L6, hE6⟩
              have K6 := Lib.hid (K.out.keep (kp.block gr K.out.lt fun e => (hE.out gr e).2 rfl))
              have B6 := Lib.hid (B.out.trans (kp.below (fun k e => (hE.out k e).1) B.out.size))
              have hE6w : Hid (∀ q, E6 q → w.heap.size ≤ q ∧ q ≠ gr) := fun q e => by
                rcases hE6 q e with e | e
                · exact hE.out q e
                · have h1 := K.out.lt
                  have h2 := B.out.size
                  omega
              have L6 := Lib.hid L6
              have HR := Lib.hid (rdSync_any (framesB ps) s w6)
              clear HY L K B kp hE6 y0 y1 RP
              go_wp2_with (refine wpList_load_row rfl 55 _ (by rfl) gr (by rfl) _ _ _ _ K6.out underRdk rfl infoRdk ?_)
              refine HR.out.mono ?_
              rintro e w7 ⟨rfl, b7⟩
              have K7 := Lib.hid (K6.out.ext b7)
              have L7 := Lib.hid (L6.out.ext b7)
              have B7 := Lib.hid (B6.out.trans (b7.mono B6.out.size))
              have kp : Kept (fun k => k = gr) w7 (w7.setRow gr (rdV (framesB ps) (framesB ps).length)) := kept_row (fun k => k = gr) w7 rfl _
              have LF := Lib.hid (L7.out.stay (kp.stay fun q _ e1 e2 => (hE6w.out q e1).2 e2))
              have BF := Lib.hid (B7.out.trans (kp.below (fun k e => by have e : k = gr := e; rw [e]; exact hgw.out) B7.out.size))
              have KF := Lib.hid (K7.out.row (rdV (framesB ps) (framesB ps).length))
              clear b7 HR K6 L6 B6 L7 B7 kp
              go_wp2_with (refine wpList_store_row rfl 55 _ _ (by rfl) gr (rdV (framesB ps) (framesB ps).length) (by rfl) (by rfl) _ _ K7.out infoRdk rfl (rdV_one _ _) ?_)
              go_meet
              case rel => exact ⟨ps, _, E6, lb, rfl, by rw [hnp.out], hg.out, by rw [← hnp.out]; omega, LF.out, hE6w.out, KF.out, BF.out⟩
            · have d1 : (a.1 == 1) = false := beq_eq_false_iff_ne.2 h1
              by_cases h2 : a.1 = 2
              · have d2 : (a.1 == 2) = true := beq_iff_eq.2 h2
                clear h2
                have hs0 : s ≤ (framesB ps).length := by
                  obtain ⟨D0, hD0, -⟩ := L.out.disk
                  exact hD0.le
                have hpl : (framesB ps).length ≤ 900000 := len_goods hg.out (by rw [← hnp.out]; omega)
                obtain ⟨D7, hD7, hDE7⟩ := L.out.disk
                have HC := Lib.hid (diskCrash_any hD7 a.2.1 hnum.out.1 hnum.out.2 (by omega))
                have hD7w : Hid (∀ q, D7 q → w.heap.size ≤ q ∧ q ≠ gr) := fun q e => hE.out q (hDE7 q e)
                clear L hD7 hDE7 hE
                go_wp2_with fail
                refine HC.out.mono ?_
                rintro e w8 ⟨rfl, kp, D8, hD8, hDD⟩
                obtain ⟨m, hme⟩ : ∃ m, m = keepN (framesB ps).length s a.2.1 := ⟨_, rfl⟩
                have HCR := Lib.hid (fun u => rdCrash_any (framesB ps) s hs0 (by omega) a.2.1 hnum.out.1 hnum.out.2 u)
                rw [← hme] at hD8 HCR
                obtain ⟨qs, q1, q2, q3, -⟩ := crash30 hg.out m
                obtain ⟨nq, hnq⟩ : ∃ m, m = qs.length := ⟨_, rfl⟩
                rw [← hnq, ← hnp.out] at q2
                replace hnq := Lib.hid hnq
                have hq1 := Lib.hid q1
                have K8 := Lib.hid (K.out.keep (kp.block gr K.out.lt fun e => (hD7w.out gr e).2 rfl))
                have B8 := Lib.hid (B.out.trans (kp.below (fun k e => (hD7w.out k e).1) B.out.size))
                have hD8w : Hid (∀ q, D8 q → w.heap.size ≤ q ∧ q ≠ gr) := fun q e => by
                  rcases hDD q e with e | e
                  · exact hD7w.out q e
                  · have h1 := K.out.lt
                    have h2 := B.out.size
                    omega
                have hbl : ((framesB ps).take m).length ≤ 900000 := by rw [List.length_take]; omega
                have HO := Lib.hid (logOpenP hnq.out.symm hD8 hbl (four_ext FO.out B8.out) q3)
                have HOR := Lib.hid (fun u => ropenP hnq.out.symm m u hbl q3)
                clear HC hD7w kp hD8 hDD hme q3 hpl hs0 K B hbl q1 y0 y1
                go_wp2_with fail
                refine HO.out.mono ?_
                rintro e w9 ⟨lm, A9, c9, E9, G9, rfl, kp, L9, -, PG, hE9, -⟩
                have B9 := Lib.hid (B8.out.trans (kp.below (fun k e => (hD8w.out k e).1) B8.out.size))
                have K9 := Lib.hid (K8.out.keep (kp.block gr K8.out.lt fun e => (hD8w.out gr e).2 rfl))
                have hEw : Hid (∀ q, E9 q → w.heap.size ≤ q ∧ q ≠ gr) := fun q e => by
                  rcases hE9 q e with e | e
                  · exact hD8w.out q e
                  · have h1 := K8.out.lt
                    have h2 := B8.out.size
                    omega
                have L9 := Lib.hid L9
                have PG := Lib.hid PG
                have R9 := Lib.hid (rangeAt_below R0.out B9.out hb0.out)
                have hb9 : Hid (b < w9.heap.size) := Nat.lt_of_lt_of_le hb0.out B9.out.size
                have Y9 : Hid (∀ u, Below w9.heap.size w9 u → u.cell? ⟨b, o + k * 6 + 1, none⟩ = some (.int .i64 a.2.1)) := fun u hu => (rangeAt_below R9.out hu hb9.out) 1 _ rfl
                clear HO K8 B8 kp hE9 hD8w R9 hb9 RP
                go_upto_region 24 with fail
                go_cut [13, 14] (fun yv wv u => ∃ gy A c, yv = .pointer (some ⟨gy, 0, none⟩) ∧ wv = .slice A nq c ∧ Hid (Blk u gy 55 (rdV (framesB qs) (framesB qs).length)) ∧ Hid (PatsAt u A nq qs) ∧ Hid (w9.heap.size ≤ gy) ∧ Hid (Below w9.heap.size w9 u))
                case first =>
                  have hcC : ∀ args u, (callFunc 36 args).run Tryz.prog u = .ok (.enter 36 args) u := enters_of Tryz.func36 (by kernel_rfl) rfl
                  have hcO : ∀ args u, (callFunc 35 args).run Tryz.prog u = .ok (.enter 35 args) u := enters_of Tryz.func35 (by kernel_rfl) rfl
                  refine wp_region_held (S := fun w' => Below w9.heap.size w9 w') mixedS ?_
                  change wpAnyH _ _ _ _ _ _ _ _ w9.drew
                  have BD : Hid (Below w9.heap.size w9 w9.drew) := (Below.refl _ _).drew
                  generalize w9.drew = wd at *
                  simp only [List.size_toArray, List.length_cons, List.length_nil]
                  refine takeV (i := 0) (d := 95) (v := .agg #[.string (bytesOf (framesB ps)), .int .i64 (s : Int)]) rfl (by kernel_rfl) (by kernel_rfl) (by kernel_rfl) (fun _ _ _ h => h) rfl (fun w' h => exMid rfl (blk_rng30 (K9.out.ext h)) underRdk rfl infoRdk) BD.out ?_
                  simp only [Act.put, List.setIfInBounds_toArray, List.set_cons_zero, List.set_cons_succ]
                  refine takeV (i := 1) (d := 96) (v := .slice (some ⟨b, o, none⟩) n c) rfl (by kernel_rfl) (by kernel_rfl) (by kernel_rfl) (fun _ _ _ h => h) rfl (fun _ _ => exMove (v := .slice (some ⟨b, o, none⟩) n c) rfl) BD.out ?_
                  simp only [Act.put, List.setIfInBounds_toArray, List.set_cons_zero, List.set_cons_succ]
                  refine takeV (i := 2) (d := 97) (v := .int .i64 ((k : Nat) : Int)) rfl (by kernel_rfl) (by kernel_rfl) (by kernel_rfl) (fun _ _ _ h => h) rfl (fun _ _ => exMove (v := .int .i64 ((k : Nat) : Int)) rfl) BD.out ?_
                  simp only [Act.put, List.setIfInBounds_toArray, List.set_cons_zero, List.set_cons_succ]
                  refine takeV (i := 3) (d := 98) (v := .pointer (some ⟨b, o + k * 6, none⟩)) rfl (by kernel_rfl) (by kernel_rfl) (by kernel_rfl) (fun _ _ _ h => h) rfl (fun w' _ => exIndex rfl rfl (indexActs b o n c k hlt w')) BD.out ?_
                  simp only [Act.put, List.setIfInBounds_toArray, List.set_cons_zero, List.set_cons_succ]
                  refine takeV (i := 4) (d := 99) (v := .pointer (some ⟨b, o + k * 6 + 1, none⟩)) rfl (by kernel_rfl) (by kernel_rfl) (by kernel_rfl) (fun _ _ _ h => h) rfl (fun w' _ => exField rfl (fieldAct1 b (o + k * 6) w')) BD.out ?_
                  simp only [Act.put, List.setIfInBounds_toArray, List.set_cons_zero, List.set_cons_succ]
                  refine takeV (i := 5) (d := 100) (v := .int .i64 a.2.1) rfl (by kernel_rfl) (by kernel_rfl) (by kernel_rfl) (fun _ _ _ h => h) rfl (fun w' h => exLoad rfl (loadRkI b (o + k * 6 + 1) w' a.2.1 (Y9.out w' h))) BD.out ?_
                  simp only [Act.put, List.setIfInBounds_toArray, List.set_cons_zero, List.set_cons_succ]
                  refine wpAnyH_all (rs := [6, 11]) (by kernel_rfl) (by simp) ?_
                  intro i hi
                  simp only [List.mem_cons, List.not_mem_nil, or_false] at hi
                  rcases hi with rfl | rfl
                  · refine wpOp_of rfl rfl (wp_called (args := #[.agg (rdV (framesB ps) s), .int .i64 a.2.1]) hcC (by simp only [List.map_toArray, List.map_cons, List.map_nil]; rfl) (HCR.out wd) ?_)
                    rintro e w_1 ⟨rfl, h_2⟩
                    refine ⟨_, rfl, ext_trans BD.out h_2, ?_⟩
                    simp only [Act.put, List.setIfInBounds_toArray, List.set_cons_zero, List.set_cons_succ]
                    have B_3 := Lib.hid (ext_trans BD.out h_2)
                    clear BD
                    clear h_2
                    refine wpAnyH_all (rs := [7, 11]) (by kernel_rfl) (by simp) ?_
                    intro i hi
                    simp only [List.mem_cons, List.not_mem_nil, or_false] at hi
                    rcases hi with rfl | rfl
                    · refine wpOp_of rfl rfl (wp_called (args := #[.agg (rdV ((framesB ps).take m) m)]) hcO (by simp only [List.map_toArray, List.map_cons, List.map_nil]; rfl) (HOR.out w_1) ?_)
                      rintro e w_4 ⟨A_5, c_6, rfl, h_7, P_8⟩
                      refine ⟨_, rfl, ext_trans B_3.out h_7, ?_⟩
                      simp only [Act.put, List.setIfInBounds_toArray, List.set_cons_zero, List.set_cons_succ]
                      have PW_9 : Hid (PatsIn w_4 (fun k => k < w_4.heap.size) A_5 nq qs) := P_8.mono fun k e => e.2
                      clear P_8
                      have B_10 := Lib.hid (ext_trans B_3.out h_7)
                      clear B_3
                      clear h_7
                      refine takeV (i := 8) (d := 94) (v := .tuple #[.agg (rdV (framesB qs) (framesB qs).length), .slice A_5 nq c_6]) rfl (by kernel_rfl) (by kernel_rfl) (by kernel_rfl) (fun _ _ _ h => h) rfl (fun _ _ => exMove (v := .tuple #[.agg (rdV (framesB qs) (framesB qs).length), .slice A_5 nq c_6]) rfl) B_10.out ?_
                      simp only [Act.put, List.setIfInBounds_toArray, List.set_cons_zero, List.set_cons_succ]
                      refine takeV (i := 9) (d := 103) (v := .agg (rdV (framesB qs) (framesB qs).length)) rfl (by kernel_rfl) (by kernel_rfl) (by kernel_rfl) (fun _ _ _ h => h) rfl (fun _ _ => exExtract (v := .agg (rdV (framesB qs) (framesB qs).length)) rfl rfl) B_10.out ?_
                      simp only [Act.put, List.setIfInBounds_toArray, List.set_cons_zero, List.set_cons_succ]
                      refine takeV (i := 10) (d := 104) (v := .slice A_5 nq c_6) rfl (by kernel_rfl) (by kernel_rfl) (by kernel_rfl) (fun _ _ _ h => h) rfl (fun _ _ => exExtract (v := .slice A_5 nq c_6) rfl rfl) B_10.out ?_
                      simp only [Act.put, List.setIfInBounds_toArray, List.set_cons_zero, List.set_cons_succ]
                      refine wpAnyH_all (rs := [11]) (by kernel_rfl) (by simp) ?_
                      intro i hi
                      simp only [List.mem_cons, List.not_mem_nil, or_false] at hi
                      subst hi
                      refine wpOp_of rfl rfl (wp_alloced (allocRdk _) ?_)
                      refine ⟨ext_trans B_10.out (below_new _ _), ?_⟩
                      simp only [Act.put, List.setIfInBounds_toArray, List.set_cons_zero, List.set_cons_succ]
                      have K_11 : Hid (Blk (w_4.alloc (.cells rdZ 55)) w_4.heap.size 55 rdZ) := Blk.new _ _ _
                      have h_12 : Below w_4.heap.size w_4 (w_4.alloc (.cells rdZ 55)) := below_new _ _
                      have gz_14 : Hid (w9.heap.size ≤ w_4.heap.size) := B_10.out.size
                      generalize (w_4.alloc (.cells rdZ 55)) = w_13 at *
                      have B_16 := Lib.hid (ext_trans B_10.out h_12)
                      have F_17 := Lib.hid (PW_9.out.ext h_12)
                      clear B_10 PW_9
                      clear h_12
                      generalize w_4.heap.size = g_15 at *
                      have PW_18 : Hid (PatsIn w_13 (fun k => k ≠ g_15) A_5 nq qs) := F_17.out.mono fun k e => Nat.ne_of_lt e
                      clear F_17
                      refine wpAnyH_all (rs := [12]) (by kernel_rfl) (by simp) ?_
                      intro i hi
                      simp only [List.mem_cons, List.not_mem_nil, or_false] at hi
                      subst hi
                      have PZ_19 : Hid (PatsAt (w_13.setRow g_15 (rdV (framesB qs) (framesB qs).length)) A_5 nq qs) := (PW_18.out.stay ((kept_row (fun k => k = g_15) w_13 rfl (rdV (framesB qs) (framesB qs).length)).stay fun k _ e1 e2 => e1 e2)).at_
                      refine wpOp_of rfl rfl (wp_stored (cs := (rdV (framesB qs) (framesB qs).length)) rfl rfl K_11.out infoRdk rfl (rdV_one _ _) ?_)
                      refine ⟨below_setRow B_16.out gz_14.out _, ?_⟩
                      have K_20 := Lib.hid (K_11.out.row (rdV (framesB qs) (framesB qs).length))
                      have B_21 := Lib.hid (below_setRow B_16.out gz_14.out (rdV (framesB qs) (framesB qs).length))
                      clear B_16 PW_18 K_11
                      refine takeV (i := 13) (d := 14) (v := .slice A_5 nq c_6) rfl (by kernel_rfl) (by kernel_rfl) (by kernel_rfl) (fun _ _ _ h => h) rfl (fun _ _ => exAssign (v := .slice A_5 nq c_6) rfl) B_21.out ?_
                      simp only [Act.put, List.setIfInBounds_toArray, List.set_cons_zero, List.set_cons_succ]
                      refine wpAnyH_done (by kernel_rfl) ?_ _
                      go_wp2_with fail
                      go_meet
                      case rel => exact ⟨g_15, A_5, c_6, rfl, rfl, K_20.out, PZ_19.out, gz_14.out, B_21.out⟩
                    · refine wpOp_of rfl rfl (wp_alloced (allocRdk _) ?_)
                      refine ⟨ext_trans B_3.out (below_new _ _), ?_⟩
                      simp only [Act.put, List.setIfInBounds_toArray, List.set_cons_zero, List.set_cons_succ]
                      have K_23 : Hid (Blk (w_1.alloc (.cells rdZ 55)) w_1.heap.size 55 rdZ) := Blk.new _ _ _
                      have h_24 : Below w_1.heap.size w_1 (w_1.alloc (.cells rdZ 55)) := below_new _ _
                      have gz_26 : Hid (w9.heap.size ≤ w_1.heap.size) := B_3.out.size
                      generalize (w_1.alloc (.cells rdZ 55)) = w_25 at *
                      have B_28 := Lib.hid (ext_trans B_3.out h_24)
                      clear B_3
                      clear h_24
                      generalize w_1.heap.size = g_27 at *
                      refine wpAnyH_all (rs := [7]) (by kernel_rfl) (by simp) ?_
                      intro i hi
                      simp only [List.mem_cons, List.not_mem_nil, or_false] at hi
                      subst hi
                      refine wpOp_of rfl rfl (wp_called (args := #[.agg (rdV ((framesB ps).take m) m)]) hcO (by simp only [List.map_toArray, List.map_cons, List.map_nil]; rfl) (HOR.out w_25) ?_)
                      rintro e w_29 ⟨A_30, c_31, rfl, h_32, P_33⟩
                      refine ⟨_, rfl, ext_trans B_28.out h_32, ?_⟩
                      simp only [Act.put, List.setIfInBounds_toArray, List.set_cons_zero, List.set_cons_succ]
                      have hgo : g_27 < w_25.heap.size := K_23.out.lt
                      have PW_34 : Hid (PatsIn w_29 (fun k => k ≠ g_27) A_30 nq qs) := P_33.mono fun k e => by have := e.1; omega
                      clear hgo
                      clear P_33
                      have B_35 := Lib.hid (ext_trans B_28.out h_32)
                      have F_36 := Lib.hid (K_23.out.ext h_32)
                      clear B_28 K_23
                      clear h_32
                      refine takeV (i := 8) (d := 94) (v := .tuple #[.agg (rdV (framesB qs) (framesB qs).length), .slice A_30 nq c_31]) rfl (by kernel_rfl) (by kernel_rfl) (by kernel_rfl) (fun _ _ _ h => h) rfl (fun _ _ => exMove (v := .tuple #[.agg (rdV (framesB qs) (framesB qs).length), .slice A_30 nq c_31]) rfl) B_35.out ?_
                      simp only [Act.put, List.setIfInBounds_toArray, List.set_cons_zero, List.set_cons_succ]
                      refine takeV (i := 9) (d := 103) (v := .agg (rdV (framesB qs) (framesB qs).length)) rfl (by kernel_rfl) (by kernel_rfl) (by kernel_rfl) (fun _ _ _ h => h) rfl (fun _ _ => exExtract (v := .agg (rdV (framesB qs) (framesB qs).length)) rfl rfl) B_35.out ?_
                      simp only [Act.put, List.setIfInBounds_toArray, List.set_cons_zero, List.set_cons_succ]
                      refine takeV (i := 10) (d := 104) (v := .slice A_30 nq c_31) rfl (by kernel_rfl) (by kernel_rfl) (by kernel_rfl) (fun _ _ _ h => h) rfl (fun _ _ => exExtract (v := .slice A_30 nq c_31) rfl rfl) B_35.out ?_
                      simp only [Act.put, List.setIfInBounds_toArray, List.set_cons_zero, List.set_cons_succ]
                      refine wpAnyH_all (rs := [12]) (by kernel_rfl) (by simp) ?_
                      intro i hi
                      simp only [List.mem_cons, List.not_mem_nil, or_false] at hi
                      subst hi
                      have PZ_37 : Hid (PatsAt (w_29.setRow g_27 (rdV (framesB qs) (framesB qs).length)) A_30 nq qs) := (PW_34.out.stay ((kept_row (fun k => k = g_27) w_29 rfl (rdV (framesB qs) (framesB qs).length)).stay fun k _ e1 e2 => e1 e2)).at_
                      refine wpOp_of rfl rfl (wp_stored (cs := (rdV (framesB qs) (framesB qs).length)) rfl rfl F_36.out infoRdk rfl (rdV_one _ _) ?_)
                      refine ⟨below_setRow B_35.out gz_26.out _, ?_⟩
                      have K_38 := Lib.hid (F_36.out.row (rdV (framesB qs) (framesB qs).length))
                      have B_39 := Lib.hid (below_setRow B_35.out gz_26.out (rdV (framesB qs) (framesB qs).length))
                      clear B_35 F_36 PW_34
                      refine takeV (i := 13) (d := 14) (v := .slice A_30 nq c_31) rfl (by kernel_rfl) (by kernel_rfl) (by kernel_rfl) (fun _ _ _ h => h) rfl (fun _ _ => exAssign (v := .slice A_30 nq c_31) rfl) B_39.out ?_
                      simp only [Act.put, List.setIfInBounds_toArray, List.set_cons_zero, List.set_cons_succ]
                      refine wpAnyH_done (by kernel_rfl) ?_ _
                      go_wp2_with fail
                      go_meet
                      case rel => exact ⟨g_27, A_30, c_31, rfl, rfl, K_38.out, PZ_37.out, gz_26.out, B_39.out⟩
                  · refine wpOp_of rfl rfl (wp_alloced (allocRdk _) ?_)
                    refine ⟨ext_trans BD.out (below_new _ _), ?_⟩
                    simp only [Act.put, List.setIfInBounds_toArray, List.set_cons_zero, List.set_cons_succ]
                    have K_41 : Hid (Blk (wd.alloc (.cells rdZ 55)) wd.heap.size 55 rdZ) := Blk.new _ _ _
                    have h_42 : Below wd.heap.size wd (wd.alloc (.cells rdZ 55)) := below_new _ _
                    have gz_44 : Hid (w9.heap.size ≤ wd.heap.size) := BD.out.size
                    generalize (wd.alloc (.cells rdZ 55)) = w_43 at *
                    have B_46 := Lib.hid (ext_trans BD.out h_42)
                    clear BD
                    clear h_42
                    generalize wd.heap.size = g_45 at *
                    refine wpAnyH_all (rs := [6]) (by kernel_rfl) (by simp) ?_
                    intro i hi
                    simp only [List.mem_cons, List.not_mem_nil, or_false] at hi
                    subst hi
                    refine wpOp_of rfl rfl (wp_called (args := #[.agg (rdV (framesB ps) s), .int .i64 a.2.1]) hcC (by simp only [List.map_toArray, List.map_cons, List.map_nil]; rfl) (HCR.out w_43) ?_)
                    rintro e w_47 ⟨rfl, h_48⟩
                    refine ⟨_, rfl, ext_trans B_46.out h_48, ?_⟩
                    simp only [Act.put, List.setIfInBounds_toArray, List.set_cons_zero, List.set_cons_succ]
                    have B_49 := Lib.hid (ext_trans B_46.out h_48)
                    have F_50 := Lib.hid (K_41.out.ext h_48)
                    clear B_46 K_41
                    clear h_48
                    refine wpAnyH_all (rs := [7]) (by kernel_rfl) (by simp) ?_
                    intro i hi
                    simp only [List.mem_cons, List.not_mem_nil, or_false] at hi
                    subst hi
                    refine wpOp_of rfl rfl (wp_called (args := #[.agg (rdV ((framesB ps).take m) m)]) hcO (by simp only [List.map_toArray, List.map_cons, List.map_nil]; rfl) (HOR.out w_47) ?_)
                    rintro e w_51 ⟨A_52, c_53, rfl, h_54, P_55⟩
                    refine ⟨_, rfl, ext_trans B_49.out h_54, ?_⟩
                    simp only [Act.put, List.setIfInBounds_toArray, List.set_cons_zero, List.set_cons_succ]
                    have hgo : g_45 < w_47.heap.size := F_50.out.lt
                    have PW_56 : Hid (PatsIn w_51 (fun k => k ≠ g_45) A_52 nq qs) := P_55.mono fun k e => by have := e.1; omega
                    clear hgo
                    clear P_55
                    have B_57 := Lib.hid (ext_trans B_49.out h_54)
                    have F_58 := Lib.hid (F_50.out.ext h_54)
                    clear B_49 F_50
                    clear h_54
                    refine takeV (i := 8) (d := 94) (v := .tuple #[.agg (rdV (framesB qs) (framesB qs).length), .slice A_52 nq c_53]) rfl (by kernel_rfl) (by kernel_rfl) (by kernel_rfl) (fun _ _ _ h => h) rfl (fun _ _ => exMove (v := .tuple #[.agg (rdV (framesB qs) (framesB qs).length), .slice A_52 nq c_53]) rfl) B_57.out ?_
                    simp only [Act.put, List.setIfInBounds_toArray, List.set_cons_zero, List.set_cons_succ]
                    refine takeV (i := 9) (d := 103) (v := .agg (rdV (framesB qs) (framesB qs).length)) rfl (by kernel_rfl) (by kernel_rfl) (by kernel_rfl) (fun _ _ _ h => h) rfl (fun _ _ => exExtract (v := .agg (rdV (framesB qs) (framesB qs).length)) rfl rfl) B_57.out ?_
                    simp only [Act.put, List.setIfInBounds_toArray, List.set_cons_zero, List.set_cons_succ]
                    refine takeV (i := 10) (d := 104) (v := .slice A_52 nq c_53) rfl (by kernel_rfl) (by kernel_rfl) (by kernel_rfl) (fun _ _ _ h => h) rfl (fun _ _ => exExtract (v := .slice A_52 nq c_53) rfl rfl) B_57.out ?_
                    simp only [Act.put, List.setIfInBounds_toArray, List.set_cons_zero, List.set_cons_succ]
                    refine wpAnyH_all (rs := [12]) (by kernel_rfl) (by simp) ?_
                    intro i hi
                    simp only [List.mem_cons, List.not_mem_nil, or_false] at hi
                    subst hi
                    have PZ_59 : Hid (PatsAt (w_51.setRow g_45 (rdV (framesB qs) (framesB qs).length)) A_52 nq qs) := (PW_56.out.stay ((kept_row (fun k => k = g_45) w_51 rfl (rdV (framesB qs) (framesB qs).length)).stay fun k _ e1 e2 => e1 e2)).at_
                    refine wpOp_of rfl rfl (wp_stored (cs := (rdV (framesB qs) (framesB qs).length)) rfl rfl F_58.out infoRdk rfl (rdV_one _ _) ?_)
                    refine ⟨below_setRow B_57.out gz_44.out _, ?_⟩
                    have K_60 := Lib.hid (F_58.out.row (rdV (framesB qs) (framesB qs).length))
                    have B_61 := Lib.hid (below_setRow B_57.out gz_44.out (rdV (framesB qs) (framesB qs).length))
                    clear B_57 F_58 PW_56
                    refine takeV (i := 13) (d := 14) (v := .slice A_52 nq c_53) rfl (by kernel_rfl) (by kernel_rfl) (by kernel_rfl) (fun _ _ _ h => h) rfl (fun _ _ => exAssign (v := .slice A_52 nq c_53) rfl) B_61.out ?_
                    simp only [Act.put, List.setIfInBounds_toArray, List.set_cons_zero, List.set_cons_succ]
                    refine wpAnyH_done (by kernel_rfl) ?_ _
                    go_wp2_with fail
                    go_meet
                    case rel => exact ⟨g_45, A_52, c_53, rfl, rfl, K_60.out, PZ_59.out, gz_44.out, B_61.out⟩
                case rest =>
                  obtain ⟨gy, A2, c2, rfl, rfl, KY, PY, hgy, BY⟩ := hcut
                  obtain ⟨u, rfl⟩ : ∃ u, u = wc := ⟨_, rfl⟩
                  have HPS := Lib.hid (patches30_same qs u A9 A2 nq c9 c2 (PG.out.ext BY.out) PY.out (by unfold maxLen; omega))
                  clear Y9 HCR HOR
                  go_wp2_with fail
                  refine HPS.out.mono ?_
                  rintro e wp ⟨rfl, bp⟩
                  have KY2 := Lib.hid (KY.out.ext bp)
                  have BY2 := Lib.hid (BY.out.trans (bp.mono BY.out.size))
                  clear HPS bp KY PY BY PG
                  go_wp2_with fail
                  have hgy2 : Hid (gy ≠ gr) := by have h1 := hgy.out; have h2 := K9.out.lt; rw [Hid]; omega
                  have KG := Lib.hid ((K9.out.ext BY2.out).ext (Below.refl _ _).drew)
                  refine wp_region_held (S := fun w' => Kept (fun q => q = gr) wp w') mixedS ?_
                  change wpAnyH _ _ _ _ _ _ _ _ wp.drew
                  have BD : Hid (Kept (fun q => q = gr) wp wp.drew) := (Kept.refl _ _).drew
                  clear K9 hgy
                  generalize wp.drew = wd at *
                  simp only [List.size_toArray, List.length_cons, List.length_nil]
                  refine takeV (i := 0) (d := 109) (v := .pointer (some ⟨lm, 0, none⟩)) rfl (by kernel_rfl) (by kernel_rfl) (by kernel_rfl) (fun _ _ _ h => h) rfl (fun _ _ => exMove (v := .pointer (some ⟨lm, 0, none⟩)) rfl) BD.out ?_
                  simp only [Act.put, List.setIfInBounds_toArray, List.set_cons_zero, List.set_cons_succ]
                  refine takeV (i := 1) (d := 110) (v := .agg #[.string (bytesOf (framesB qs)), .int .i64 ((framesB qs).length : Int)]) rfl (by kernel_rfl) (by kernel_rfl) (by kernel_rfl) (fun _ _ _ h => h) rfl (fun w' h => exMid rfl (blk_rng30 (h.blk KY2.out hgy2.out)) underRdk rfl infoRdk) BD.out ?_
                  simp only [Act.put, List.setIfInBounds_toArray, List.set_cons_zero, List.set_cons_succ]
                  refine takeV (i := 2) (d := 111) (v := .slice A2 nq c2) rfl (by kernel_rfl) (by kernel_rfl) (by kernel_rfl) (fun _ _ _ h => h) rfl (fun _ _ => exMove (v := .slice A2 nq c2) rfl) BD.out ?_
                  simp only [Act.put, List.setIfInBounds_toArray, List.set_cons_zero, List.set_cons_succ]
                  refine takeV (i := 3) (d := 112) (v := .int .i64 ((nq : Nat) : Int)) rfl (by kernel_rfl) (by kernel_rfl) (by kernel_rfl) (fun _ _ _ h => h) rfl (fun _ _ => exLen Tryz.underlying28 rfl) BD.out ?_
                  simp only [Act.put, List.setIfInBounds_toArray, List.set_cons_zero, List.set_cons_succ]
                  refine takeV (i := 4) (d := 5) (v := .pointer (some ⟨lm, 0, none⟩)) rfl (by kernel_rfl) (by kernel_rfl) (by kernel_rfl) (fun _ _ _ h => h) rfl (fun _ _ => exAssign (v := .pointer (some ⟨lm, 0, none⟩)) rfl) BD.out ?_
                  simp only [Act.put, List.setIfInBounds_toArray, List.set_cons_zero, List.set_cons_succ]
                  refine wpAnyH_all (rs := [5]) (by kernel_rfl) (by simp) ?_
                  intro i hi
                  simp only [List.mem_cons, List.not_mem_nil, or_false] at hi
                  subst hi
                  refine wpOp_of rfl rfl (wp_stored (cs := (rdV (framesB qs) (framesB qs).length)) rfl rfl KG.out infoRdk rfl (rdV_one _ _) ?_)
                  refine ⟨BD.out.trans (kept_row (fun q => q = gr) _ rfl _) fun _ e => .inl e, ?_⟩
                  have BS := Lib.hid (BD.out.trans (kept_row (fun q => q = gr) wd rfl (rdV (framesB qs) (framesB qs).length)) fun _ e => .inl e)
                  have KF := Lib.hid (KG.out.row (rdV (framesB qs) (framesB qs).length))
                  clear BD KG
                  refine takeV (i := 6) (d := 7) (v := .int .i64 ((nq : Nat) : Int)) rfl (by kernel_rfl) (by kernel_rfl) (by kernel_rfl) (fun _ _ _ h => h) rfl (fun _ _ => exAssign (v := .int .i64 ((nq : Nat) : Int)) rfl) BS.out ?_
                  simp only [Act.put, List.setIfInBounds_toArray, List.set_cons_zero, List.set_cons_succ]
                  refine wpAnyH_done (by kernel_rfl) ?_ _
                  have LF := Lib.hid ((L9.out.ext BY2.out).stay (BS.out.stay fun q _ e1 e2 => (hEw.out q e1).2 e2))
                  have BF := Lib.hid ((B9.out.trans (BY2.out.mono B9.out.size)).trans (BS.out.below (fun k e => by have e : k = gr := e; rw [e]; exact hgw.out) (Nat.le_trans B9.out.size BY2.out.size)))
                  clear BS KY2 BY2 L9 B9
                  go_wp2_with fail
                  go_meet
                  case rel => exact ⟨qs, _, E9, lm, rfl, by rw [hnq.out], hq1.out, by rw [← hnq.out]; omega, LF.out, hEw.out, KF.out, BF.out⟩
              · have d2 : (a.1 == 2) = false := beq_eq_false_iff_ne.2 h2
                go_wp2_with fail
                go_meet
                case rel => exact ⟨ps, s, E, lb, rfl, by rw [hnp.out], hg.out, by rw [← hnp.out]; omega, L.out, hE.out, K.out, B.out⟩
        case rest =>
          clear L K hE hg hnum y0 y1 RP B HQ R0 hi4
          obtain ⟨ps2, s2, E2, l2, rfl, rfl, hg2, hpl2, LR, hE2, KR, BR⟩ := hcut
          obtain ⟨wx, rfl⟩ : ∃ wx, wx = wc := ⟨_, rfl⟩
          obtain ⟨DD, hDD, -⟩ := LR.out.disk
          have hs2 : s2 ≤ (framesB ps2).length := hDD.le
          have hY9 : (framesB ps2).length ≤ 900000 := len_goods hg2.out (by omega)
          have HLN : Hid (∀ u, Below wx.heap.size wx u → Calls Tryz.prog 40 #[.pointer (some ⟨l2, 0, none⟩)] u (Ret u (.int .i64 ((ps2.length : Nat) : Int)))) := fun u hu => logLenP (LR.out.ext hu)
          have HLS : Hid (∀ u, Below wx.heap.size wx u → Calls Tryz.prog 41 #[.pointer (some ⟨l2, 0, none⟩)] u (RetB u (.int .i64 ((sureN (withLen ps2) s2 : Nat) : Int)))) := fun u hu => logSureP (LR.out.ext hu) hg2.out (by omega)
          have HRS : Hid (∀ u, Calls Tryz.prog 42 #[.agg (rdV (framesB ps2) s2)] u (RetB u (.int .i64 ((sureN (withLen ps2) s2 : Nat) : Int)))) := fun u => rsureP hg2.out (by omega) hs2 u
          obtain ⟨Y, hY⟩ : ∃ Y, Y = framesB ps2 := ⟨_, rfl⟩
          rw [← hY] at hDD HRS KR LR hY9
          replace hY := Lib.hid hY
          obtain ⟨np2, hnp2⟩ : ∃ m, m = ps2.length := ⟨_, rfl⟩
          rw [← hnp2] at HLN ⊢
          replace hnp2 := Lib.hid hnp2
          generalize sureN (withLen ps2) s2 = sn2 at *
          obtain ⟨nY, hnY⟩ : ∃ n, Y.length = n := ⟨_, rfl⟩
          have HBY : Hid (∀ u, Below wx.heap.size wx u → Calls Tryz.prog 38 #[.pointer (some ⟨d, 0, none⟩)] u (OwnedRet u 5 1 nY (encB Y))) := fun u hu => by
            have h1 := diskBytes_any (hDD.ext hu) (by omega)
            rw [hnY] at h1
            exact h1
          have hnY := Lib.hid hnY
          have HSU : Hid (∀ u, Below wx.heap.size wx u → Calls Tryz.prog 39 #[.pointer (some ⟨d, 0, none⟩)] u (Ret u (.int .i64 (s2 : Int)))) := fun u hu => diskSure_any (hDD.ext hu)
          clear hDD hs2 hY9
          have hcB : ∀ args u, (callFunc 38 args).run Tryz.prog u = .ok (.enter 38 args) u := enters_of Tryz.func38 (by kernel_rfl) rfl
          have hcS : ∀ args u, (callFunc 39 args).run Tryz.prog u = .ok (.enter 39 args) u := enters_of Tryz.func39 (by kernel_rfl) rfl
          have hcL : ∀ args u, (callFunc 40 args).run Tryz.prog u = .ok (.enter 40 args) u := enters_of Tryz.func40 (by kernel_rfl) rfl
          have hcU : ∀ args u, (callFunc 41 args).run Tryz.prog u = .ok (.enter 41 args) u := enters_of Tryz.func41 (by kernel_rfl) rfl
          have hcR : ∀ args u, (callFunc 42 args).run Tryz.prog u = .ok (.enter 42 args) u := enters_of Tryz.func42 (by kernel_rfl) rfl
          go_wp2_with fail
          refine wp_region_held (S := fun w' => Below wx.heap.size wx w') mixedS ?_
          change wpAnyH _ _ _ _ _ _ _ _ wx.drew
          have BD : Hid (Below wx.heap.size wx wx.drew) := (Below.refl _ _).drew
          generalize wx.drew = wd at *
          simp only [List.size_toArray, List.length_cons, List.length_nil]
          refine takeV (i := 0) (d := 113) (v := .pointer (some ⟨d, 0, none⟩)) rfl (by kernel_rfl) (by kernel_rfl) (by kernel_rfl) (fun _ _ _ h => h) rfl (fun _ _ => exMove (v := .pointer (some ⟨d, 0, none⟩)) rfl) BD.out ?_
          simp only [Act.put, List.setIfInBounds_toArray, List.set_cons_zero, List.set_cons_succ]
          refine takeV (i := 3) (d := 116) (v := .pointer (some ⟨gr, 0, none⟩)) rfl (by kernel_rfl) (by kernel_rfl) (by kernel_rfl) (fun _ _ _ h => h) rfl (fun w' _ => exField rfl (fieldRk0 gr w')) BD.out ?_
          simp only [Act.put, List.setIfInBounds_toArray, List.set_cons_zero, List.set_cons_succ]
          refine takeV (i := 4) (d := 117) (v := .string (bytesOf Y)) rfl (by kernel_rfl) (by kernel_rfl) (by kernel_rfl) (fun _ _ _ h => h) rfl (fun w' h => exLoad rfl (loadRkS gr 0 w' (bytesOf Y) ((KR.out.ext h).cell 0))) BD.out ?_
          simp only [Act.put, List.setIfInBounds_toArray, List.set_cons_zero, List.set_cons_succ]
          refine wpAnyH_all (rs := [1]) (by kernel_rfl) (by simp) ?_
          intro i hi
          simp only [List.mem_cons, List.not_mem_nil, or_false] at hi
          subst hi
          refine wpOp_of rfl rfl (wp_called (args := #[.pointer (some ⟨d, 0, none⟩)]) hcB (by simp only [List.map_toArray, List.map_cons, List.map_nil]; rfl) (HBY.out wd BD.out) ?_)
          rintro e w_1 ⟨v_2, rfl, o_3, h_4⟩
          obtain ⟨A_5, c_6, rfl, _, S_70⟩ := Sl.of_own o_3
          have S_7 := Lib.hid S_70
          refine ⟨_, rfl, ext_trans BD.out h_4, ?_⟩
          simp only [Act.put, List.setIfInBounds_toArray, List.set_cons_zero, List.set_cons_succ]
          have B_8 := Lib.hid (ext_trans BD.out h_4)
          clear BD
          clear o_3 h_4 S_70
          refine wpAnyH_all (rs := [2]) (by kernel_rfl) (by simp) ?_
          intro i hi
          simp only [List.mem_cons, List.not_mem_nil, or_false] at hi
          subst hi
          refine wpOp_of rfl rfl (wpPureD (exConvB rfl (strB_run S_7.out hnY.out)) ?_)
          refine ⟨B_8.out, ?_⟩
          simp only [Act.put, List.setIfInBounds_toArray, List.set_cons_zero, List.set_cons_succ]
          clear S_7
          refine takeV (i := 5) (d := 118) (v := .bool false) rfl (by kernel_rfl) (by kernel_rfl) (by kernel_rfl) (fun _ _ _ h => h) rfl (fun w' _ => exBin rfl rfl (by rfl) (neStr30 _ w')) B_8.out ?_
          simp only [Act.put, List.setIfInBounds_toArray, List.set_cons_zero, List.set_cons_succ]
          refine takeV (i := 6) (d := 119) (v := .bool false) rfl (by kernel_rfl) (by kernel_rfl) (by kernel_rfl) (fun _ _ _ h => h) rfl (fun _ _ => exMove (v := .bool false) rfl) B_8.out ?_
          simp only [Act.put, List.setIfInBounds_toArray, List.set_cons_zero, List.set_cons_succ]
          refine takeV (i := 7) (d := 120) (v := .pointer (some ⟨d, 0, none⟩)) rfl (by kernel_rfl) (by kernel_rfl) (by kernel_rfl) (fun _ _ _ h => h) rfl (fun _ _ => exMove (v := .pointer (some ⟨d, 0, none⟩)) rfl) B_8.out ?_
          simp only [Act.put, List.setIfInBounds_toArray, List.set_cons_zero, List.set_cons_succ]
          refine takeV (i := 9) (d := 122) (v := .pointer (some ⟨gr, 1, none⟩)) rfl (by kernel_rfl) (by kernel_rfl) (by kernel_rfl) (fun _ _ _ h => h) rfl (fun w' _ => exField rfl (fieldRk1 gr w')) B_8.out ?_
          simp only [Act.put, List.setIfInBounds_toArray, List.set_cons_zero, List.set_cons_succ]
          refine takeV (i := 10) (d := 123) (v := .int .i64 (s2 : Int)) rfl (by kernel_rfl) (by kernel_rfl) (by kernel_rfl) (fun _ _ _ h => h) rfl (fun w' h => exLoad rfl (loadRkI gr 1 w' (s2 : Int) ((KR.out.ext h).cell 1))) B_8.out ?_
          simp only [Act.put, List.setIfInBounds_toArray, List.set_cons_zero, List.set_cons_succ]
          refine wpAnyH_all (rs := [8]) (by kernel_rfl) (by simp) ?_
          intro i hi
          simp only [List.mem_cons, List.not_mem_nil, or_false] at hi
          subst hi
          refine wpOp_of rfl rfl (wp_called (args := #[.pointer (some ⟨d, 0, none⟩)]) hcS (by simp only [List.map_toArray, List.map_cons, List.map_nil]; rfl) (HSU.out w_1 B_8.out) ?_)
          rintro e w_9 ⟨rfl, rfl⟩
          refine ⟨_, rfl, B_8.out, ?_⟩
          simp only [Act.put, List.setIfInBounds_toArray, List.set_cons_zero, List.set_cons_succ]
          refine takeV (i := 11) (d := 124) (v := .bool false) rfl (by kernel_rfl) (by kernel_rfl) (by kernel_rfl) (fun _ _ _ h => h) rfl (fun w' _ => exBin rfl rfl (by rfl) (neInt30 _ w')) B_8.out ?_
          simp only [Act.put, List.setIfInBounds_toArray, List.set_cons_zero, List.set_cons_succ]
          refine takeV (i := 12) (d := 125) (v := .bool false) rfl (by kernel_rfl) (by kernel_rfl) (by kernel_rfl) (fun _ _ _ h => h) rfl (fun _ _ => exPickF (v := .bool false) rfl rfl) B_8.out ?_
          simp only [Act.put, List.setIfInBounds_toArray, List.set_cons_zero, List.set_cons_succ]
          refine takeV (i := 13) (d := 126) (v := .bool false) rfl (by kernel_rfl) (by kernel_rfl) (by kernel_rfl) (fun _ _ _ h => h) rfl (fun _ _ => exMove (v := .bool false) rfl) B_8.out ?_
          simp only [Act.put, List.setIfInBounds_toArray, List.set_cons_zero, List.set_cons_succ]
          refine takeV (i := 14) (d := 127) (v := .pointer (some ⟨l2, 0, none⟩)) rfl (by kernel_rfl) (by kernel_rfl) (by kernel_rfl) (fun _ _ _ h => h) rfl (fun _ _ => exMove (v := .pointer (some ⟨l2, 0, none⟩)) rfl) B_8.out ?_
          simp only [Act.put, List.setIfInBounds_toArray, List.set_cons_zero, List.set_cons_succ]
          refine takeV (i := 16) (d := 129) (v := .int .i64 ((np2 : Nat) : Int)) rfl (by kernel_rfl) (by kernel_rfl) (by kernel_rfl) (fun _ _ _ h => h) rfl (fun _ _ => exMove (v := .int .i64 ((np2 : Nat) : Int)) rfl) B_8.out ?_
          simp only [Act.put, List.setIfInBounds_toArray, List.set_cons_zero, List.set_cons_succ]
          refine wpAnyH_all (rs := [15]) (by kernel_rfl) (by simp) ?_
          intro i hi
          simp only [List.mem_cons, List.not_mem_nil, or_false] at hi
          subst hi
          refine wpOp_of rfl rfl (wp_called (args := #[.pointer (some ⟨l2, 0, none⟩)]) hcL (by simp only [List.map_toArray, List.map_cons, List.map_nil]; rfl) (HLN.out w_1 B_8.out) ?_)
          rintro e w_10 ⟨rfl, rfl⟩
          refine ⟨_, rfl, B_8.out, ?_⟩
          simp only [Act.put, List.setIfInBounds_toArray, List.set_cons_zero, List.set_cons_succ]
          refine takeV (i := 17) (d := 130) (v := .bool false) rfl (by kernel_rfl) (by kernel_rfl) (by kernel_rfl) (fun _ _ _ h => h) rfl (fun w' _ => exBin rfl rfl (by rfl) (neInt30 _ w')) B_8.out ?_
          simp only [Act.put, List.setIfInBounds_toArray, List.set_cons_zero, List.set_cons_succ]
          refine takeV (i := 18) (d := 131) (v := .bool false) rfl (by kernel_rfl) (by kernel_rfl) (by kernel_rfl) (fun _ _ _ h => h) rfl (fun _ _ => exPickF (v := .bool false) rfl rfl) B_8.out ?_
          simp only [Act.put, List.setIfInBounds_toArray, List.set_cons_zero, List.set_cons_succ]
          refine takeV (i := 19) (d := 132) (v := .bool false) rfl (by kernel_rfl) (by kernel_rfl) (by kernel_rfl) (fun _ _ _ h => h) rfl (fun _ _ => exMove (v := .bool false) rfl) B_8.out ?_
          simp only [Act.put, List.setIfInBounds_toArray, List.set_cons_zero, List.set_cons_succ]
          refine takeV (i := 20) (d := 133) (v := .pointer (some ⟨l2, 0, none⟩)) rfl (by kernel_rfl) (by kernel_rfl) (by kernel_rfl) (fun _ _ _ h => h) rfl (fun _ _ => exMove (v := .pointer (some ⟨l2, 0, none⟩)) rfl) B_8.out ?_
          simp only [Act.put, List.setIfInBounds_toArray, List.set_cons_zero, List.set_cons_succ]
          refine takeV (i := 22) (d := 135) (v := .agg #[.string (bytesOf Y), .int .i64 (s2 : Int)]) rfl (by kernel_rfl) (by kernel_rfl) (by kernel_rfl) (fun _ _ _ h => h) rfl (fun w' h => exMid rfl (blk_rng30 (KR.out.ext h)) underRdk rfl infoRdk) B_8.out ?_
          simp only [Act.put, List.setIfInBounds_toArray, List.set_cons_zero, List.set_cons_succ]
          refine wpAnyH_all (rs := [21]) (by kernel_rfl) (by simp) ?_
          intro i hi
          simp only [List.mem_cons, List.not_mem_nil, or_false] at hi
          subst hi
          refine wpOp_of rfl rfl (wp_called (args := #[.pointer (some ⟨l2, 0, none⟩)]) hcU (by simp only [List.map_toArray, List.map_cons, List.map_nil]; rfl) (HLS.out w_1 B_8.out) ?_)
          rintro e w_11 ⟨rfl, h_12⟩
          refine ⟨_, rfl, ext_trans B_8.out h_12, ?_⟩
          simp only [Act.put, List.setIfInBounds_toArray, List.set_cons_zero, List.set_cons_succ]
          have B_13 := Lib.hid (ext_trans B_8.out h_12)
          clear B_8
          clear h_12
          refine wpAnyH_all (rs := [23]) (by kernel_rfl) (by simp) ?_
          intro i hi
          simp only [List.mem_cons, List.not_mem_nil, or_false] at hi
          subst hi
          refine wpOp_of rfl rfl (wp_called (args := #[.agg (rdV Y s2)]) hcR (by simp only [List.map_toArray, List.map_cons, List.map_nil]; rfl) (HRS.out w_11) ?_)
          rintro e w_14 ⟨rfl, h_15⟩
          refine ⟨_, rfl, ext_trans B_13.out h_15, ?_⟩
          simp only [Act.put, List.setIfInBounds_toArray, List.set_cons_zero, List.set_cons_succ]
          have B_16 := Lib.hid (ext_trans B_13.out h_15)
          clear B_13
          clear h_15
          refine takeV (i := 24) (d := 137) (v := .bool false) rfl (by kernel_rfl) (by kernel_rfl) (by kernel_rfl) (fun _ _ _ h => h) rfl (fun w' _ => exBin rfl rfl (by rfl) (neInt30 _ w')) B_16.out ?_
          simp only [Act.put, List.setIfInBounds_toArray, List.set_cons_zero, List.set_cons_succ]
          refine takeV (i := 25) (d := 138) (v := .bool false) rfl (by kernel_rfl) (by kernel_rfl) (by kernel_rfl) (fun _ _ _ h => h) rfl (fun _ _ => exPickF (v := .bool false) rfl rfl) B_16.out ?_
          simp only [Act.put, List.setIfInBounds_toArray, List.set_cons_zero, List.set_cons_succ]
          refine wpAnyH_done (by kernel_rfl) ?_ _
          have BF := Lib.hid (BR.out.trans (B_16.out.mono BR.out.size))
          have LF := Lib.hid (LR.out.ext B_16.out)
          have KF := Lib.hid (KR.out.ext B_16.out)
          clear B_16 LR KR BR HBY HSU HLN HLS HRS
          go_wp2_with fail
          go_roundw
          case rel => exact ⟨k + 1, ps2, s2, E2, l2, by omega, rfl, by rw [hnp2.out], by go_num, hg2.out, hpl2, by rw [← hY.out]; exact LF.out, hE2.out, by rw [← hY.out]; exact KF.out, BF.out⟩
          case measure => simp [intOf]; omega
      · have hlk : ¬ (k : Int) < (n : Int) := by omega
        have FW := Lib.hid (four_ext FO.out B.out)
        clear L K
        go_wp2_with fail
        refine (works30 _ FW.out).mono ?_
        rintro e wz ⟨rfl, bz⟩
        have BZ := Lib.hid (B.out.trans (bz.mono B.out.size))
        clear bz FW B
        go_wp2
        go_ret
        exact ⟨rfl, BZ.out⟩
end Go.Proofs.YtdafiipedlglpaaGreatDoor
