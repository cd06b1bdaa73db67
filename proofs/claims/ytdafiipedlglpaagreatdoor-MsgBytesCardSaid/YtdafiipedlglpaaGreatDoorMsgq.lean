/- MsgBytes: walked. -/
import Derived.Test.YtdafiipedlglpaaGreatDoorMsgz
import Derived.Test.YtdafiipedlglpaaGreatDoorMsgn
import Derived.Test.YtdafiipedlglpaaGreatDoorCrcs
import Derived.Test.YtdafiipedlglpaaGreatDoorRpi
namespace Go.Proofs.YtdafiipedlglpaaGreatDoor
open Go.RowKit

set_option maxRecDepth 100000 in
set_option maxHeartbeats 8000000 in
theorem msgBytes_walk (w : World) (m : MsgV) (ca : List Value) (hm : MsgAt w ca m) (bs : List UInt8) (A1 : Option Addr) (n1 c1 : Nat) (ha : BytesAt w A1 n1 c1 bs) (sd : Bool) (hF : FourOk w) : Calls Tryz.prog 4 #[.agg ca.toArray, .slice A1 n1 c1, .bool sd] w (RetB w (.bool true)) := by
  obtain ⟨Z, hZ⟩ : ∃ Z, Z = rawC 0 0 0 vec0 zeroBl none 0 0 := ⟨_, rfl⟩
  have AL : Hid (∀ u : World, (Instr.alloc 30 true (.tuple #[])).run Tryz.prog u = .ok (.pointer (some ⟨u.heap.size, 0, none⟩)) (u.alloc (.cells Z.toArray 30))) := by rw [Hid, hZ]; exact allocMsg
  have zl : Hid (Z.length = 72) := by rw [Hid, hZ]; exact rawC_len vec0_ok zeroBl_ok none 0 0
  replace hZ := Lib.hid hZ
  have K1 : Hid (Blk (w.alloc (.cells ca.toArray 30)) w.heap.size 30 ca.toArray) := Blk.new _ _ _
  have B0 : Hid (Below w.heap.size w (w.alloc (.cells ca.toArray 30))) := below_new _ _
  have M0 := Lib.hid (hm.ext B0.out)
  have H0 := Lib.hid (ha.ext B0.out)
  have F0 := Lib.hid (four_ext hF B0.out)
  have IA := Lib.hid hm.info
  have OKM := Lib.hid hm.ok
  clear hm hF ha
  go_enter Tryz.func4, Tryz.ntmps4
  go_upto_region 1 with fail
  generalize (w.alloc (.cells ca.toArray 30)) = w2 at *
  obtain ⟨g1, hg1⟩ : ∃ g, g = w.heap.size := ⟨_, rfl⟩
  rw [← hg1] at K1 ⊢
  replace hg1 := Lib.hid hg1
  have HF1 := Lib.hid (few34_any m w2 _ M0.out)
  obtain ⟨N1, hN1⟩ : ∃ N, N = fewsN m.2.2.2 12 := ⟨_, rfl⟩
  rw [← hN1] at HF1
  clear hN1
  by_cases h1 : N1 = 0
  · have z1 : (N1 == 0) = true := by rw [beq_iff_eq]; exact h1
    replace h1 := Lib.hid h1
    go_wp2_with (refine wpList_load_row rfl 30 _ (by rfl) g1 (by rfl) _ _ _ _ K1.out underMsg rfl IA.out ?_)
    refine HF1.out.mono ?_
    rintro e w3 ⟨rfl, b3⟩
    have F3 := Lib.hid (four_ext F0.out b3)
    have B3 := Lib.hid (B0.out.trans (b3.mono B0.out.size))
    clear b3 HF1 F0 B0
    go_wp2_with fail
    refine (works34 w3 F3.out).mono ?_
    rintro e wz ⟨rfl, bz⟩
    go_wp2
    go_ret
    exact ⟨rfl, B3.out.trans (bz.mono B3.out.size)⟩
  · have z1 : (N1 == 0) = false := by rw [beq_eq_false_iff_ne]; exact h1
    replace h1 := Lib.hid h1
    by_cases hn : n1 ≤ 3000
    · have hni : ¬ (3000 < (n1 : Int)) := by omega
      go_wp2_with (refine wpList_load_row rfl 30 _ (by rfl) g1 (by rfl) _ _ _ _ K1.out underMsg rfl IA.out ?_)
      refine HF1.out.mono ?_
      rintro e w3 ⟨rfl, b3⟩
      have F3 := Lib.hid (four_ext F0.out b3)
      have B3 := Lib.hid (B0.out.trans (b3.mono B0.out.size))
      have M3 := Lib.hid (M0.out.ext b3)
      have K3 := Lib.hid (K1.out.ext b3)
      have H3 := Lib.hid (H0.out.ext b3)
      clear b3 HF1 F0 B0 M0 K1 H0
      have HE := Lib.hid (encM_any m w3 ca M3.out F3.out)
      go_wp2_with (refine wpList_load_row rfl 30 _ (by rfl) g1 (by rfl) _ _ _ _ K3.out underMsg rfl IA.out ?_)
      refine HE.out.mono ?_
      rintro e w4 ⟨h4, h4'⟩
      have hE : Hid (∃ v er, e = .returned (.tuple #[v, er]) ∧ Below w3.heap.size w3 w4 ∧ ((goodM m = true ∧ er = .int .i64 0 ∧ w4.ownsRow w3.heap.size 5 1 v (sealB (plainM m)).length (encB (sealB (plainM m)))) ∨ (goodM m = false ∧ v = .slice none 0 0 ∧ er = .int .i64 1))) := by
        cases hg : goodM m
        · obtain ⟨h1, h2⟩ := h4' hg
          exact ⟨_, _, h1, h2, .inr ⟨rfl, rfl, rfl⟩⟩
        · obtain ⟨v, h1, h2, h3⟩ := h4 hg
          exact ⟨_, _, h1, h3, .inl ⟨rfl, rfl, h2⟩⟩
      obtain ⟨v, er, rfl, b4, hE⟩ := hE.out
      replace hE := Lib.hid hE
      have F4 := Lib.hid (four_ext F3.out b4)
      have M4 := Lib.hid (M3.out.ext b4)
      have K4 := Lib.hid (K3.out.ext b4)
      have H4 := Lib.hid (H3.out.ext b4)
      have B4 := Lib.hid (B3.out.trans (b4.mono B3.out.size))
      have HG := Lib.hid (rmsgGood_any m w4 ca M4.out)
      clear h4 h4' HE b4 F3 M3 K3 H3 B3
      have hvs : Hid (∃ A n c, v = .slice A n c) := by
        rcases hE.out with ⟨_, _, h⟩ | ⟨_, h, _⟩
        · obtain ⟨A, c, h1, _⟩ := Sl.of_own h
          exact ⟨_, _, _, h1⟩
        · exact ⟨_, _, _, h⟩
      obtain ⟨A, nL, c, rfl⟩ := hvs.out
      have her : Hid (∃ k : Int, er = .int .i64 k) := by
        rcases hE.out with ⟨_, h, _⟩ | ⟨_, _, h⟩ <;> exact ⟨_, h⟩
      obtain ⟨ek, rfl⟩ := her.out
      clear hvs her
      obtain ⟨gd, hgd⟩ : ∃ gd, gd = goodM m := ⟨_, rfl⟩
      rw [← hgd] at HG hE
      replace hgd := Lib.hid hgd
      go_upto_region 4 with fail
      go_wp2_with (refine wpList_load_row rfl 30 _ (by rfl) g1 (by rfl) _ _ _ _ K4.out underMsg rfl IA.out ?_)
      refine HG.out.mono ?_
      rintro e w5 ⟨rfl, b5⟩
      have F5 := Lib.hid (four_ext F4.out b5)
      have M5 := Lib.hid (M4.out.ext b5)
      have K5 := Lib.hid (K4.out.ext b5)
      have H5 := Lib.hid (H4.out.ext b5)
      have B5 := Lib.hid (B4.out.trans (b5.mono B4.out.size))
      have hE : Hid ((gd = true ∧ ek = 0 ∧ ∃ L, L = sealB (plainM m) ∧ nL = L.length ∧ BytesAt w5 A nL c L) ∨ (gd = false ∧ A = none ∧ nL = 0 ∧ c = 0 ∧ ek = 1)) := by
        rcases hE.out with ⟨h1, h2, h3⟩ | ⟨h1, h2, h3⟩
        · injection h2 with _ h2
          obtain ⟨A', c', e, ba⟩ := own_bytes h3 rfl
          injection e with e1 e2 e3
          subst e1 e2 e3
          exact .inl ⟨h1, h2, _, rfl, rfl, ba.ext b5⟩
        · injection h2 with e1 e2 e3
          injection h3 with _ h3
          exact .inr ⟨h1, e1, e2, e3, h3⟩
      clear HG b5 F4 M4 K4 H4 B4
      go_upto_if 29 with fail
      go_cut [6] (fun _ wx => Below w.heap.size w wx ∧ Below w5.heap.size w5 wx)
      case first =>
        rcases hE.out with ⟨rfl, rfl, L, hL, hnL, hba⟩ | ⟨rfl, rfl, rfl, rfl, rfl⟩
        · have BA := Lib.hid hba
          have hg : Hid (goodM m = true) := hgd.out.symm
          replace hL := Lib.hid hL
          replace hnL := Lib.hid hnL
          clear hba hE
          go_upto_region 7 with fail
          have hcB : ∀ args u, (callFunc 20 args).run Tryz.prog u = .ok (.enter 20 args) u := enters_of Tryz.func20 (by kernel_rfl) rfl
          refine wp_region_held (S := fun w' => Below w5.heap.size w5 w') mixedS ?_
          change wpAnyH _ _ _ _ _ _ _ _ w5.drew
          have B6 : Hid (Below w5.heap.size w5 w5.drew) := (Below.refl _ _).drew
          generalize w5.drew = w6 at B6 ⊢
          simp only [List.size_toArray, List.length_cons, List.length_nil]
          refine takeV (i := 0) (d := 37) (v := .int .i64 0) rfl (by kernel_rfl) (by kernel_rfl) (by kernel_rfl) (fun _ _ _ h => h) rfl (fun _ _ => exMove (v := .int .i64 0) rfl) B6.out ?_
          simp only [Act.put, List.setIfInBounds_toArray, List.set_cons_zero, List.set_cons_succ]
          refine takeV (i := 1) (d := 38) (v := .bool false) rfl (by kernel_rfl) (by kernel_rfl) (by kernel_rfl) (fun _ _ _ h => h) rfl (fun w' _ => exBin rfl rfl (by rfl) (neI w')) B6.out ?_
          simp only [Act.put, List.setIfInBounds_toArray, List.set_cons_zero, List.set_cons_succ]
          refine takeV (i := 2) (d := 39) (v := .bool false) rfl (by kernel_rfl) (by kernel_rfl) (by kernel_rfl) (fun _ _ _ h => h) rfl (fun _ _ => exMove (v := .bool false) rfl) B6.out ?_
          simp only [Act.put, List.setIfInBounds_toArray, List.set_cons_zero, List.set_cons_succ]
          refine takeV (i := 3) (d := 40) (v := .slice A nL c) rfl (by kernel_rfl) (by kernel_rfl) (by kernel_rfl) (fun _ _ _ h => h) rfl (fun _ _ => exMove (v := .slice A nL c) rfl) B6.out ?_
          simp only [Act.put, List.setIfInBounds_toArray, List.set_cons_zero, List.set_cons_succ]
          refine takeV (i := 4) (d := 41) (v := .string (bytesOf L)) rfl (by kernel_rfl) (by kernel_rfl) (by kernel_rfl) (fun _ _ _ h => h) rfl (fun w' h => exConvB rfl (strB_run (BA.out.ext h).sl hnL.out.symm)) B6.out ?_
          simp only [Act.put, List.setIfInBounds_toArray, List.set_cons_zero, List.set_cons_succ]
          refine takeV (i := 5) (d := 42) (v := .agg ca.toArray) rfl (by kernel_rfl) (by kernel_rfl) (by kernel_rfl) (fun _ _ _ h => h) rfl (fun w' h => exMid rfl (blk_rng (K5.out.ext h)) underMsg rfl (by rw [← List.size_toArray]; exact IA.out)) B6.out ?_
          simp only [Act.put, List.setIfInBounds_toArray, List.set_cons_zero, List.set_cons_succ]
          refine wpAnyH_all (rs := [6]) (by kernel_rfl) (by simp) ?_
          intro i hi
          simp only [List.mem_cons, List.not_mem_nil, or_false] at hi
          subst hi
          refine wpOp_of rfl rfl (wp_called (args := #[.agg ca.toArray]) hcB (by simp only [List.map_toArray, List.map_cons, List.map_nil]; rfl) (rbytes34_any m hg.out w6 _ (M5.out.ext B6.out) (four_ext F5.out B6.out)) ?_)
          rintro e w9 ⟨v9, rfl, o9, b9⟩
          rw [← hL.out, ← hnL.out] at o9
          obtain ⟨A9, c9, rfl, ba9⟩ := own_bytes o9 hnL.out.symm
          refine ⟨_, rfl, ext_trans B6.out b9, ?_⟩
          simp only [Act.put, List.setIfInBounds_toArray, List.set_cons_zero, List.set_cons_succ]
          have BA9 := Lib.hid ba9
          have B9 := Lib.hid (ext_trans B6.out b9)
          clear o9 b9 ba9 B6
          refine wpAnyH_all (rs := [7]) (by kernel_rfl) (by simp) ?_
          intro i hi
          simp only [List.mem_cons, List.not_mem_nil, or_false] at hi
          subst hi
          refine wpOp_of rfl rfl (wp_convB rfl (strB_run BA9.out.sl hnL.out.symm) ?_)
          refine ⟨B9.out, ?_⟩
          simp only [Act.put, List.setIfInBounds_toArray, List.set_cons_zero, List.set_cons_succ]
          refine takeV (i := 8) (d := 45) (v := .bool false) rfl (by kernel_rfl) (by kernel_rfl) (by kernel_rfl) (fun _ _ _ h => h) rfl (fun w' _ => exBin rfl rfl (by rfl) (neS w')) B9.out ?_
          simp only [Act.put, List.setIfInBounds_toArray, List.set_cons_zero, List.set_cons_succ]
          refine takeV (i := 9) (d := 46) (v := .bool false) rfl (by kernel_rfl) (by kernel_rfl) (by kernel_rfl) (fun _ _ _ h => h) rfl (fun _ _ => exPickF (v := .bool false) rfl rfl) B9.out ?_
          simp only [Act.put, List.setIfInBounds_toArray, List.set_cons_zero, List.set_cons_succ]
          refine wpAnyH_done (by kernel_rfl) ?_ _
          have BF := Lib.hid B9.out
          go_wp2_with fail
          go_meet
          case rel => exact ⟨B5.out.trans (BF.out.mono B5.out.size), BF.out⟩
        · clear hE
          go_wp2_with fail
          go_meet
          case rel => exact ⟨B5.out, Below.refl _ _⟩
      case rest =>
        clear hE hgd M5 K5
        obtain ⟨h1, h2⟩ := hcut
        have B6 := Lib.hid h1
        have H6 := Lib.hid (H5.out.ext h2)
        have F6 := Lib.hid (four_ext F5.out h2)
        clear h1 h2 B5 H5 F5
        have hbl := H6.out.len
        go_upto_if 47 with fail
        go_cut [1] (fun bv wx => ∃ (L : List UInt8) (A2 : Option Addr) (n2 c2 : Nat), bv = .slice A2 n2 c2 ∧ n2 ≤ 3004 ∧ BytesAt wx A2 n2 c2 L ∧ FourOk wx ∧ Below w.heap.size w wx)
        case first =>
          cases sd
          · go_wp2_with fail
            go_meet
            case rel => exact ⟨bs, A1, n1, c1, rfl, by omega, H6.out, F6.out, B6.out⟩
          · have HS := Lib.hid (rseal05_any bs wc A1 n1 c1 H6.out (by omega))
            go_wp2_with fail
            refine HS.out.mono ?_
            rintro e w7 ⟨v7, rfl, o7, b7⟩
            obtain ⟨A7, c7, rfl, ba7⟩ := own_bytes o7 rfl
            have F7 := Lib.hid (four_ext F6.out b7)
            have B7 := Lib.hid (B6.out.trans (b7.mono B6.out.size))
            have BA7 := Lib.hid ba7
            clear o7 ba7 b7 HS
            go_wp2_with fail
            go_meet
            case rel => exact ⟨_, A7, _, c7, rfl, by rw [sealB_len]; omega, BA7.out, F7.out, B7.out⟩
        case rest =>
          clear H6 F6 B6
          obtain ⟨L, A2, n2, c2, rfl, hn2, h1, h2, h3⟩ := hcut
          have BA8 := Lib.hid h1
          have F8 := Lib.hid h2
          have B8 := Lib.hid h3
          clear h1 h2 h3
          have HD := Lib.hid (decM_any L _ A2 n2 c2 BA8.out (by omega) F8.out)
          obtain ⟨X, r, hX⟩ : ∃ X r, decM L = (X, r) := ⟨_, _, rfl⟩
          replace hX := Lib.hid hX
          go_wp2_with fail
          refine HD.out.mono ?_
          rintro e w9 ⟨cs, rfl, ma, b9⟩
          rw [hX.out] at ma ⊢
          dsimp only at ma ⊢
          clear HD
          have KZ : Hid (Blk (w9.alloc (.cells Z.toArray 30)) w9.heap.size 30 Z.toArray) := Blk.new _ _ _
          have KQ : Hid (Blk ((w9.alloc (.cells Z.toArray 30)).setRow w9.heap.size cs.toArray) w9.heap.size 30 cs.toArray) := KZ.out.row _
          have BN : Hid (Below w9.heap.size w9 ((w9.alloc (.cells Z.toArray 30)).setRow w9.heap.size cs.toArray)) := below_setRow (below_new w9 _) (Nat.le_refl _) _
          have IKQ : Hid ((Tryz.prog.info? 30).map (·.size) = some cs.toArray.size) := ma.info
          have OKQ : Hid (cs.toArray.all (·.oneCell') = true) := ma.one
          have LKQ : Hid (cs.toArray.size = Z.toArray.size) := by rw [Hid, List.size_toArray, List.size_toArray, ma.len72, zl.out]
          have MI := Lib.hid ma
          have BAai := Lib.hid (BA8.out.ext b9)
          have Fai := Lib.hid (four_ext F8.out b9)
          have Bai := Lib.hid (B8.out.trans (b9.mono B8.out.size))
          clear ma b9 BA8 F8 B8
          go_upto_region 12 with (first
            | (refine wpList_alloced (AL.out _) ?_)
            | (refine wpList_store_row rfl 30 _ _ (by rfl) w9.heap.size cs.toArray (by rfl) (by rfl) _ _ KZ.out IKQ.out LKQ.out.symm OKQ.out ?_))
          generalize ((w9.alloc (.cells Z.toArray 30)).setRow w9.heap.size cs.toArray) = wa at *
          have BAa := Lib.hid (BAai.out.ext BN.out)
          have Fa := Lib.hid (four_ext Fai.out BN.out)
          have Ba := Lib.hid (Bai.out.trans (BN.out.mono Bai.out.size))
          have MQ := Lib.hid (MI.out.ext BN.out)
          clear KZ BN MI LKQ OKQ BAai Fai Bai
          generalize w9.heap.size = gq at *
          obtain ⟨ct, hct⟩ : ∃ ct, ct = cs := ⟨_, rfl⟩
          rw [← hct] at KQ MQ IKQ
          clear hct
          have HD := Lib.hid (rdecM_any L _ A2 n2 c2 BAa.out (by omega))
          go_wp2_with fail
          refine HD.out.mono ?_
          rintro e wb ⟨cs, rfl, ma, b9⟩
          rw [hX.out] at ma ⊢
          dsimp only at ma ⊢
          clear HD
          have KZ : Hid (Blk (wb.alloc (.cells Z.toArray 30)) wb.heap.size 30 Z.toArray) := Blk.new _ _ _
          have KP : Hid (Blk ((wb.alloc (.cells Z.toArray 30)).setRow wb.heap.size cs.toArray) wb.heap.size 30 cs.toArray) := KZ.out.row _
          have BN : Hid (Below wb.heap.size wb ((wb.alloc (.cells Z.toArray 30)).setRow wb.heap.size cs.toArray)) := below_setRow (below_new wb _) (Nat.le_refl _) _
          have IKP : Hid ((Tryz.prog.info? 30).map (·.size) = some cs.toArray.size) := ma.info
          have OKP : Hid (cs.toArray.all (·.oneCell') = true) := ma.one
          have LKP : Hid (cs.toArray.size = Z.toArray.size) := by rw [Hid, List.size_toArray, List.size_toArray, ma.len72, zl.out]
          have MI := Lib.hid ma
          have KQdi := Lib.hid (KQ.out.ext b9)
          have MQdi := Lib.hid (MQ.out.ext b9)
          have Fdi := Lib.hid (four_ext Fa.out b9)
          have Bdi := Lib.hid (Ba.out.trans (b9.mono Ba.out.size))
          clear ma b9 KQ MQ Fa Ba
          go_upto_region 13 with (first
            | (refine wpList_alloced (AL.out _) ?_)
            | (refine wpList_store_row rfl 30 _ _ (by rfl) wb.heap.size cs.toArray (by rfl) (by rfl) _ _ KZ.out IKP.out LKP.out.symm OKP.out ?_))
          generalize ((wb.alloc (.cells Z.toArray 30)).setRow wb.heap.size cs.toArray) = wd at *
          have KQd := Lib.hid (KQdi.out.ext BN.out)
          have MQd := Lib.hid (MQdi.out.ext BN.out)
          have Fd := Lib.hid (four_ext Fdi.out BN.out)
          have Bd := Lib.hid (Bdi.out.trans (BN.out.mono Bdi.out.size))
          have MP := Lib.hid (MI.out.ext BN.out)
          clear KZ BN MI LKP OKP KQdi MQdi Fdi Bdi
          generalize wb.heap.size = gp at *
          have HS := Lib.hid (rmsgSame_any X X wd _ _ MQd.out MP.out)
          rw [decide_eq_true rfl] at HS
          have zr : ((r : Int) == (r : Int)) = true := by rw [beq_iff_eq]
          go_wp2_with (first
            | (refine wpList_load_rowG (by kernel_rfl) 30 _ (by rfl) gq (by rfl) _ _ _ _ KQd.out underMsg rfl IKQ.out ?_)
            | (refine wpList_load_rowG (by kernel_rfl) 30 _ (by rfl) gp (by rfl) _ _ _ _ KP.out underMsg rfl IKP.out ?_))
          refine HS.out.mono ?_
          rintro e we ⟨rfl, be⟩
          have Fe := Lib.hid (four_ext Fd.out be)
          have Be := Lib.hid (Bd.out.trans (be.mono Bd.out.size))
          clear be HS Fd Bd KQd KP MQd MP
          go_wp2_with fail
          refine (works34 we Fe.out).mono ?_
          rintro e wz ⟨rfl, bz⟩
          go_wp2
          go_ret
          exact ⟨rfl, Be.out.trans (bz.mono Be.out.size)⟩
    · have hni : (3000 < (n1 : Int)) := by omega
      go_wp2_with (refine wpList_load_row rfl 30 _ (by rfl) g1 (by rfl) _ _ _ _ K1.out underMsg rfl IA.out ?_)
      refine HF1.out.mono ?_
      rintro e w3 ⟨rfl, b3⟩
      have F3 := Lib.hid (four_ext F0.out b3)
      have B3 := Lib.hid (B0.out.trans (b3.mono B0.out.size))
      clear b3 HF1 F0 B0
      go_wp2_with fail
      refine (works34 w3 F3.out).mono ?_
      rintro e wz ⟨rfl, bz⟩
      go_wp2
      go_ret
      exact ⟨rfl, B3.out.trans (bz.mono B3.out.size)⟩
end Go.Proofs.YtdafiipedlglpaaGreatDoor
