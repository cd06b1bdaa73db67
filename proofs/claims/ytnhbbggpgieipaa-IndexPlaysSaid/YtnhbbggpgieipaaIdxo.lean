/- The document's index: which patches of a list there are: walked. -/
import Derived.Test.YtnhbbggpgieipaaIdxn
namespace Go.Proofs.Ytnhbbggpgieipaa
open Go.RowKit

set_option maxRecDepth 100000 in
set_option maxHeartbeats 4000000 in
theorem rvec31_any (l : List PatV) (w : World) (A : Option Addr) (n c : Nat) (h : PatsAt w A n l) (hm : n ≤ maxLen) :
    Calls Try.prog 27 #[.slice A n c] w (RetB w (.agg (vecA (vecL l)))) := by
  unfold maxLen at hm
  have H0 := Lib.hid h
  have KR : Hid (Blk ((w.alloc (.cells (vecA vec0) 25)).alloc (.cells (vecA vec0) 25)) w.heap.size 25 (vecA vec0)) := (Blk.new _ _ _).alloc _
  have KV : Hid (Blk ((w.alloc (.cells (vecA vec0) 25)).alloc (.cells (vecA vec0) 25)) (w.heap.size + 1) 25 (vecA (vecL (l.take 0)))) := by rw [List.take_zero]; exact Blk.newAt (by simp) _ _
  have B0 : Hid (Below w.heap.size w ((w.alloc (.cells (vecA vec0) 25)).alloc (.cells (vecA vec0) 25))) := ((Below.refl _ _).alloc (Nat.le_refl _) _).alloc (by simp) _
  have hgv : Hid (w.heap.size ≤ w.heap.size + 1) := Nat.le_succ _
  have hne : Hid (w.heap.size ≠ w.heap.size + 1) := by show ¬ _; omega
  have hsz0 : Hid ((vecA vec0).size = 64) := by rw [Hid, vecA_size]; exact vec0_ok.len
  have hcU : ∀ args u, (callFunc 64 args).run Try.prog u = .ok (.enter 64 args) u := enters_of Try.func64 (by kernel_rfl) rfl
  clear h
  go_enter Try.func27, Try.ntmps27
  go_upto_region 2 with (refine wpList_alloced (alloc64 _) ?_)
  generalize ((w.alloc (.cells (vecA vec0) 25)).alloc (.cells (vecA vec0) 25)) = w2 at *
  have hgr2 : Hid (w.heap.size < w2.heap.size) := KR.out.lt
  have hgv2 : Hid (w.heap.size + 1 < w2.heap.size) := KV.out.lt
  go_wp2_with fail
  generalize w.heap.size + 1 = gv at *
  obtain ⟨gr, hgr⟩ : ∃ gr, gr = w.heap.size := ⟨_, rfl⟩
  rw [← hgr] at KR hne hgr2 ⊢
  replace hgr := Lib.hid hgr
  have BS := Lib.hid (Below.refl (w2.heap.size) w2)
  go_loopw [4] (fun i wr => ∃ k : Nat, k ≤ n ∧ i = .int .i64 k ∧ Hid (Blk wr gv 25 (vecA (vecL (l.take k)))) ∧ Hid (Blk wr gr 25 (vecA vec0)) ∧ Hid (Below w.heap.size w wr)) (fun i _ => n - (intOf i).toNat)
  case atStart => exact ⟨0, by omega, rfl, KV.out, KR.out, B0.out⟩
  case round =>
    clear KV KR BS
    obtain ⟨k, hk, rfl, KV, KR, B⟩ := hrel
    have hk0 : (0 : Int) ≤ (k : Int) := by omega
    by_cases hlt : k < n
    · have hlk : (k : Int) < (n : Int) := by omega
      obtain ⟨b, o, p, r, rfl, hb, hp, pa, R⟩ := (H0.out.ext B.out).at_ hlt
      obtain ⟨⟨A3, c3, A4, c4, rfl, _, _⟩, _, _⟩ := pa
      have RP := Lib.hid (pid_range R)
      have hbl := Lib.hid hb
      have RV := Lib.hid (blk_vec KV.out)
      have gvl : Hid (gv < wr.heap.size) := KV.out.lt
      have N : Hid (vecL (l.take (k + 1)) = putW (vecL (l.take k)) p.1) := by rw [Hid, take_snoc' hp, vecL_snoc]
      have HVW : Hid (VecOk (putW (vecL (l.take k)) p.1)) := putV_ok (vecL_ok _) _ _
      have hsz1 : Hid ((vecA (putW (vecL (l.take k)) p.1)).size = 64) := by rw [Hid, vecA_size]; exact HVW.out.len
      have hszk : Hid ((vecA (vecL (l.take k))).size = 64) := by rw [Hid, vecA_size]; exact (vecL_ok _).len
      have hsz2 : Hid ((Try.prog.info? 25).map (·.size) = some (vecA (putW (vecL (l.take k)) p.1)).size) := by rw [Hid, hsz1.out]; exact info64
      have hone := Lib.hid (vecA_one (putW (vecL (l.take k)) p.1))
      have HP := Lib.hid (fun u => rput12_any (vecL (l.take k)) (vecL_ok _) p.1 u)
      have HIX : Hid (∀ u : World, (Instr.indexAt 22 (.slice (some ⟨b, o, none⟩) n c) (.int .i64 ((k : Nat) : Int))).run Try.prog u = .ok (.pointer (some ⟨b, o + k * 4, none⟩)) u) := fun u => indexPats b o n c k hlt u
      clear R hp
      go_upto_region 5 with fail
      go_cut [5] (fun pv wx => ∃ gn, pv = .pointer (some ⟨gn, 0, none⟩) ∧ Blk wx gn 25 (vecA (putW (vecL (l.take k)) p.1)) ∧ Below wr.heap.size wr wx)
      case first =>
        refine wp_region_held (S := fun w' => Below wr.heap.size wr w') mixedS ?_
        change wpAnyH _ _ _ _ _ _ _ _ wr.drew
        have B5 : Hid (Below wr.heap.size wr wr.drew) := (Below.refl _ _).drew
        generalize wr.drew = w5 at B5 ⊢
        simp only [List.size_toArray, List.length_cons, List.length_nil]
        refine takeV (i := 0) (d := 14) (v := .agg (vecA (vecL (l.take k)))) rfl (by kernel_rfl) (by kernel_rfl) (by kernel_rfl) (fun _ _ _ h => h) rfl (fun w' h => exMid rfl (rangeAt_below RV.out h gvl.out) under64 rfl (info64' (vecL_ok _))) B5.out ?_
        simp only [Act.put, List.setIfInBounds_toArray, List.set_cons_zero, List.set_cons_succ]
        refine takeV (i := 1) (d := 15) (v := .slice (some ⟨b, o, none⟩) n c) rfl (by kernel_rfl) (by kernel_rfl) (by kernel_rfl) (fun _ _ _ h => h) rfl (fun _ _ => exMove (v := .slice (some ⟨b, o, none⟩) n c) rfl) B5.out ?_
        simp only [Act.put, List.setIfInBounds_toArray, List.set_cons_zero, List.set_cons_succ]
        refine takeV (i := 2) (d := 16) (v := .int .i64 ((k : Nat) : Int)) rfl (by kernel_rfl) (by kernel_rfl) (by kernel_rfl) (fun _ _ _ h => h) rfl (fun _ _ => exMove (v := .int .i64 ((k : Nat) : Int)) rfl) B5.out ?_
        simp only [Act.put, List.setIfInBounds_toArray, List.set_cons_zero, List.set_cons_succ]
        refine takeV (i := 3) (d := 17) (v := .pointer (some ⟨b, o + k * 4, none⟩)) rfl (by kernel_rfl) (by kernel_rfl) (by kernel_rfl) (fun _ _ _ h => h) rfl (fun w' _ => exIndex rfl rfl (HIX.out w')) B5.out ?_
        simp only [Act.put, List.setIfInBounds_toArray, List.set_cons_zero, List.set_cons_succ]
        refine takeV (i := 4) (d := 18) (v := .pointer (some ⟨b, o + k * 4, none⟩)) rfl (by kernel_rfl) (by kernel_rfl) (by kernel_rfl) (fun _ _ _ h => h) rfl (fun w' _ => exField rfl (fieldPatAt0 b (o + k * 4) w')) B5.out ?_
        simp only [Act.put, List.setIfInBounds_toArray, List.set_cons_zero, List.set_cons_succ]
        refine takeV (i := 5) (d := 19) (v := .agg (encP p.1).toArray) rfl (by kernel_rfl) (by kernel_rfl) (by kernel_rfl) (fun _ _ _ h => h) rfl (fun w' h => exMid rfl (rangeAt_below RP.out h hbl.out) underPid rfl infoPid) B5.out ?_
        simp only [Act.put, List.setIfInBounds_toArray, List.set_cons_zero, List.set_cons_succ]
        refine wpAnyH_all (rs := [6, 10]) (by kernel_rfl) (by simp) ?_
        intro i hi
        simp only [List.mem_cons, List.not_mem_nil, or_false] at hi
        rcases hi with rfl | rfl
        · refine wpOp_of rfl rfl (wp_called (args := #[.agg (vecA (vecL (l.take k))), .agg (encP p.1).toArray]) hcU (by simp only [List.map_toArray, List.map_cons, List.map_nil]; rfl) (HP.out w5) ?_)
          rintro e w_1 ⟨rfl, h_2⟩
          refine ⟨_, rfl, ext_trans B5.out h_2, ?_⟩
          simp only [Act.put, List.setIfInBounds_toArray, List.set_cons_zero, List.set_cons_succ]
          have B_3 := Lib.hid (ext_trans B5.out h_2)
          clear B5
          clear h_2
          refine takeV (i := 7) (d := 13) (v := .tuple #[.agg (vecA (putW (vecL (l.take k)) p.1)), .bool (putB (vecL (l.take k)) p.1)]) rfl (by kernel_rfl) (by kernel_rfl) (by kernel_rfl) (fun _ _ _ h => h) rfl (fun _ _ => exMove (v := .tuple #[.agg (vecA (putW (vecL (l.take k)) p.1)), .bool (putB (vecL (l.take k)) p.1)]) rfl) B_3.out ?_
          simp only [Act.put, List.setIfInBounds_toArray, List.set_cons_zero, List.set_cons_succ]
          refine takeV (i := 8) (d := 21) (v := .agg (vecA (putW (vecL (l.take k)) p.1))) rfl (by kernel_rfl) (by kernel_rfl) (by kernel_rfl) (fun _ _ _ h => h) rfl (fun _ _ => exExtract (v := .agg (vecA (putW (vecL (l.take k)) p.1))) rfl rfl) B_3.out ?_
          simp only [Act.put, List.setIfInBounds_toArray, List.set_cons_zero, List.set_cons_succ]
          refine takeV (i := 9) (d := 22) (v := .bool (putB (vecL (l.take k)) p.1)) rfl (by kernel_rfl) (by kernel_rfl) (by kernel_rfl) (fun _ _ _ h => h) rfl (fun _ _ => exExtract (v := .bool (putB (vecL (l.take k)) p.1)) rfl rfl) B_3.out ?_
          simp only [Act.put, List.setIfInBounds_toArray, List.set_cons_zero, List.set_cons_succ]
          refine wpAnyH_all (rs := [10]) (by kernel_rfl) (by simp) ?_
          intro i hi
          simp only [List.mem_cons, List.not_mem_nil, or_false] at hi
          subst hi
          refine wpOp_of rfl rfl (wp_alloced (alloc64 _) ?_)
          refine ⟨ext_trans B_3.out (below_new _ _), ?_⟩
          simp only [Act.put, List.setIfInBounds_toArray, List.set_cons_zero, List.set_cons_succ]
          have K_4 : Hid (Blk (w_1.alloc (.cells (vecA vec0) 25)) w_1.heap.size 25 (vecA vec0)) := Blk.new _ _ _
          have h_5 : Below w_1.heap.size w_1 (w_1.alloc (.cells (vecA vec0) 25)) := below_new _ _
          have gz_7 : Hid (wr.heap.size ≤ w_1.heap.size) := B_3.out.size
          generalize (w_1.alloc (.cells (vecA vec0) 25)) = w_6 at *
          have B_9 := Lib.hid (ext_trans B_3.out h_5)
          clear B_3
          clear h_5
          generalize w_1.heap.size = g_8 at *
          refine wpAnyH_all (rs := [11]) (by kernel_rfl) (by simp) ?_
          intro i hi
          simp only [List.mem_cons, List.not_mem_nil, or_false] at hi
          subst hi
          refine wpOp_of rfl rfl (wp_stored (cs := (vecA (putW (vecL (l.take k)) p.1))) rfl rfl K_4.out hsz2.out (by rw [hsz0.out, hsz1.out]) hone.out ?_)
          refine ⟨below_setRow B_9.out gz_7.out _, ?_⟩
          have K_10 := Lib.hid (K_4.out.row (vecA (putW (vecL (l.take k)) p.1)))
          have B_11 := Lib.hid (below_setRow B_9.out gz_7.out (vecA (putW (vecL (l.take k)) p.1)))
          clear B_9 K_4
          refine takeV (i := 12) (d := 6) (v := .bool (putB (vecL (l.take k)) p.1)) rfl (by kernel_rfl) (by kernel_rfl) (by kernel_rfl) (fun _ _ _ h => h) rfl (fun _ _ => exAssign (v := .bool (putB (vecL (l.take k)) p.1)) rfl) B_11.out ?_
          simp only [Act.put, List.setIfInBounds_toArray, List.set_cons_zero, List.set_cons_succ]
          refine wpAnyH_done (by kernel_rfl) ?_ _
          go_wp2_with fail
          go_meet
          case rel => exact ⟨_, rfl, K_10.out, B_11.out⟩
        · refine wpOp_of rfl rfl (wp_alloced (alloc64 _) ?_)
          refine ⟨ext_trans B5.out (below_new _ _), ?_⟩
          simp only [Act.put, List.setIfInBounds_toArray, List.set_cons_zero, List.set_cons_succ]
          have K_13 : Hid (Blk (w5.alloc (.cells (vecA vec0) 25)) w5.heap.size 25 (vecA vec0)) := Blk.new _ _ _
          have h_14 : Below w5.heap.size w5 (w5.alloc (.cells (vecA vec0) 25)) := below_new _ _
          have gz_16 : Hid (wr.heap.size ≤ w5.heap.size) := B5.out.size
          generalize (w5.alloc (.cells (vecA vec0) 25)) = w_15 at *
          have B_18 := Lib.hid (ext_trans B5.out h_14)
          clear B5
          clear h_14
          generalize w5.heap.size = g_17 at *
          refine wpAnyH_all (rs := [6]) (by kernel_rfl) (by simp) ?_
          intro i hi
          simp only [List.mem_cons, List.not_mem_nil, or_false] at hi
          subst hi
          refine wpOp_of rfl rfl (wp_called (args := #[.agg (vecA (vecL (l.take k))), .agg (encP p.1).toArray]) hcU (by simp only [List.map_toArray, List.map_cons, List.map_nil]; rfl) (HP.out w_15) ?_)
          rintro e w_19 ⟨rfl, h_20⟩
          refine ⟨_, rfl, ext_trans B_18.out h_20, ?_⟩
          simp only [Act.put, List.setIfInBounds_toArray, List.set_cons_zero, List.set_cons_succ]
          have B_21 := Lib.hid (ext_trans B_18.out h_20)
          have F_22 := Lib.hid (K_13.out.ext h_20)
          clear B_18 K_13
          clear h_20
          refine takeV (i := 7) (d := 13) (v := .tuple #[.agg (vecA (putW (vecL (l.take k)) p.1)), .bool (putB (vecL (l.take k)) p.1)]) rfl (by kernel_rfl) (by kernel_rfl) (by kernel_rfl) (fun _ _ _ h => h) rfl (fun _ _ => exMove (v := .tuple #[.agg (vecA (putW (vecL (l.take k)) p.1)), .bool (putB (vecL (l.take k)) p.1)]) rfl) B_21.out ?_
          simp only [Act.put, List.setIfInBounds_toArray, List.set_cons_zero, List.set_cons_succ]
          refine takeV (i := 8) (d := 21) (v := .agg (vecA (putW (vecL (l.take k)) p.1))) rfl (by kernel_rfl) (by kernel_rfl) (by kernel_rfl) (fun _ _ _ h => h) rfl (fun _ _ => exExtract (v := .agg (vecA (putW (vecL (l.take k)) p.1))) rfl rfl) B_21.out ?_
          simp only [Act.put, List.setIfInBounds_toArray, List.set_cons_zero, List.set_cons_succ]
          refine takeV (i := 9) (d := 22) (v := .bool (putB (vecL (l.take k)) p.1)) rfl (by kernel_rfl) (by kernel_rfl) (by kernel_rfl) (fun _ _ _ h => h) rfl (fun _ _ => exExtract (v := .bool (putB (vecL (l.take k)) p.1)) rfl rfl) B_21.out ?_
          simp only [Act.put, List.setIfInBounds_toArray, List.set_cons_zero, List.set_cons_succ]
          refine wpAnyH_all (rs := [11]) (by kernel_rfl) (by simp) ?_
          intro i hi
          simp only [List.mem_cons, List.not_mem_nil, or_false] at hi
          subst hi
          refine wpOp_of rfl rfl (wp_stored (cs := (vecA (putW (vecL (l.take k)) p.1))) rfl rfl F_22.out hsz2.out (by rw [hsz0.out, hsz1.out]) hone.out ?_)
          refine ⟨below_setRow B_21.out gz_16.out _, ?_⟩
          have K_23 := Lib.hid (F_22.out.row (vecA (putW (vecL (l.take k)) p.1)))
          have B_24 := Lib.hid (below_setRow B_21.out gz_16.out (vecA (putW (vecL (l.take k)) p.1)))
          clear B_21 F_22
          refine takeV (i := 12) (d := 6) (v := .bool (putB (vecL (l.take k)) p.1)) rfl (by kernel_rfl) (by kernel_rfl) (by kernel_rfl) (fun _ _ _ h => h) rfl (fun _ _ => exAssign (v := .bool (putB (vecL (l.take k)) p.1)) rfl) B_24.out ?_
          simp only [Act.put, List.setIfInBounds_toArray, List.set_cons_zero, List.set_cons_succ]
          refine wpAnyH_done (by kernel_rfl) ?_ _
          go_wp2_with fail
          go_meet
          case rel => exact ⟨_, rfl, K_23.out, B_24.out⟩
      case rest =>
        obtain ⟨gn, rfl, kn, bx⟩ := hcut
        obtain ⟨wx, rfl⟩ : ∃ wx, wx = wc := ⟨_, rfl⟩
        have KN := Lib.hid kn
        have KV := Lib.hid (KV.out.ext bx)
        have KR := Lib.hid (KR.out.ext bx)
        have B := Lib.hid (B.out.trans (bx.mono B.out.size))
        clear kn bx RV RP HP HIX
        go_wp2_with (first
          | (refine wpList_load_row rfl 25 _ (by rfl) gn (by rfl) _ _ _ _ KN.out under64 rfl (by rw [hsz1.out]; exact info64) ?_)
          | (refine wpList_store_row rfl 25 _ _ (by rfl) gv (vecA (putW (vecL (l.take k)) p.1)) (by rfl) (by rfl) _ _ KV.out hsz2.out (by rw [hszk.out, hsz1.out]) hone.out ?_))
        go_roundw
        case rel => exact ⟨k + 1, by omega, by go_num, by rw [N.out]; exact KV.out.row _, KR.out.rowFar hne.out _, below_setRow B.out hgv.out _⟩
        case measure => simp [intOf]; omega
    · have hk' : k = n := by omega
      subst hk'
      rw [List.take_of_length_le (Nat.le_of_eq H0.out.len)] at KV
      have hszk : Hid ((vecA (vecL l)).size = 64) := by rw [Hid, vecA_size]; exact (vecL_ok _).len
      have hone := Lib.hid (vecA_one (vecL l))
      go_wp2_with (first
        | (refine wpList_load_row rfl 25 _ (by rfl) gv (by rfl) _ _ _ _ KV.out under64 rfl (by rw [hszk.out]; exact info64) ?_)
        | (refine wpList_store_row rfl 25 _ _ (by rfl) gr (vecA (vecL l)) (by rfl) (by rfl) _ _ KR.out (by rw [hszk.out]; exact info64) (by rw [hszk.out, hsz0.out]) hone.out ?_))
      refine bodyPost_ret (results_cell_row rfl _ _ gr _ (vecA (vecL l)) _ _ rfl (KR.out.row _) under64 rfl (by rw [hszk.out]; exact info64)) rfl ?_
      exact ⟨rfl, below_setRow B.out (Nat.le_of_eq hgr.out.symm) _⟩
end Go.Proofs.Ytnhbbggpgieipaa
