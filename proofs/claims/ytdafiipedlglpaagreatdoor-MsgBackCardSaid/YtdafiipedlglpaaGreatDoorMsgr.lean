/- MsgBack: walked. -/
import Derived.Test.YtdafiipedlglpaaGreatDoorMsgz
import Derived.Test.YtdafiipedlglpaaGreatDoorMsgn
import Derived.Test.YtdafiipedlglpaaGreatDoorCrcs
namespace Go.Proofs.YtdafiipedlglpaaGreatDoor
open Go.RowKit

set_option maxRecDepth 100000 in
set_option maxHeartbeats 8000000 in
theorem msgBack_walk (w : World) (m : MsgV) (ca : List Value) (hm : MsgAt w ca m) (bs : List UInt8) (A1 : Option Addr) (n1 c1 : Nat) (ha : BytesAt w A1 n1 c1 bs) (hF : FourOk w) : Calls Tryz.prog 5 #[.agg ca.toArray, .slice A1 n1 c1] w (RetB w (.bool true)) := by
  obtain ⟨Z, hZ⟩ : ∃ Z, Z = rawC 0 0 0 vec0 zeroBl none 0 0 := ⟨_, rfl⟩
  have AL : Hid (∀ u : World, (Instr.alloc 30 true (.tuple #[])).run Tryz.prog u = .ok (.pointer (some ⟨u.heap.size, 0, none⟩)) (u.alloc (.cells Z.toArray 30))) := by rw [Hid, hZ]; exact allocMsg
  have zl : Hid (Z.length = 72) := by rw [Hid, hZ]; exact rawC_len vec0_ok zeroBl_ok none 0 0
  replace hZ := Lib.hid hZ
  have K1 : Hid (Blk (w.alloc (.cells ca.toArray 30)) w.heap.size 30 ca.toArray) := Blk.new _ _ _
  have B0 : Hid (Below w.heap.size w (w.alloc (.cells ca.toArray 30))) := below_new _ _
  have M0 := Lib.hid (hm.ext B0.out)
  have H0 := Lib.hid (ha.ext B0.out)
  have F0 := Lib.hid (four_ext hF B0.out)
  have IA := Lib.hid hm.info
  have OKM := Lib.hid hm.ok
  clear hm hF ha
  go_enter Tryz.func5, Tryz.ntmps5
  go_upto_region 1 with fail
  generalize (w.alloc (.cells ca.toArray 30)) = w2 at *
  obtain ⟨g1, hg1⟩ : ∃ g, g = w.heap.size := ⟨_, rfl⟩
  rw [← hg1] at K1 ⊢
  replace hg1 := Lib.hid hg1
  have HF1 := Lib.hid (few34_any m w2 _ M0.out)
  obtain ⟨N1, hN1⟩ : ∃ N, N = fewsN m.2.2.2 12 := ⟨_, rfl⟩
  rw [← hN1] at HF1
  clear hN1
  by_cases h1 : N1 = 0
  · have z1 : (N1 == 0) = true := by rw [beq_iff_eq]; exact h1
    replace h1 := Lib.hid h1
    go_wp2_with (refine wpList_load_row rfl 30 _ (by rfl) g1 (by rfl) _ _ _ _ K1.out underMsg rfl IA.out ?_)
    refine HF1.out.mono ?_
    rintro e w3 ⟨rfl, b3⟩
    have F3 := Lib.hid (four_ext F0.out b3)
    have B3 := Lib.hid (B0.out.trans (b3.mono B0.out.size))
    clear b3 HF1 F0 B0
    go_wp2_with fail
    refine (works34 w3 F3.out).mono ?_
    rintro e wz ⟨rfl, bz⟩
    go_wp2
    go_ret
    exact ⟨rfl, B3.out.trans (bz.mono B3.out.size)⟩
  · have z1 : (N1 == 0) = false := by rw [beq_eq_false_iff_ne]; exact h1
    replace h1 := Lib.hid h1
    by_cases hn : n1 ≤ 3000
    · have hni : ¬ (3000 < (n1 : Int)) := by omega
      go_wp2_with (refine wpList_load_row rfl 30 _ (by rfl) g1 (by rfl) _ _ _ _ K1.out underMsg rfl IA.out ?_)
      refine HF1.out.mono ?_
      rintro e w3 ⟨rfl, b3⟩
      have F3 := Lib.hid (four_ext F0.out b3)
      have B3 := Lib.hid (B0.out.trans (b3.mono B0.out.size))
      have M3 := Lib.hid (M0.out.ext b3)
      have K3 := Lib.hid (K1.out.ext b3)
      have H3 := Lib.hid (H0.out.ext b3)
      clear b3 HF1 F0 B0 M0 K1 H0
      have HE := Lib.hid (encM_any m w3 ca M3.out F3.out)
      go_upto_region 3 with fail
      go_wp2_with (refine wpList_load_row rfl 30 _ (by rfl) g1 (by rfl) _ _ _ _ K3.out underMsg rfl IA.out ?_)
      refine HE.out.mono ?_
      rintro e w4 ⟨h4, h4'⟩
      have hE : Hid (∃ A nL c ek, e = .returned (.tuple #[.slice A nL c, .int .i64 ek]) ∧ Below w3.heap.size w3 w4 ∧ ((goodM m = true ∧ ek = 0 ∧ ∃ L, L = sealB (plainM m) ∧ nL = L.length ∧ BytesAt w4 A nL c L) ∨ (goodM m = false ∧ ek = 1))) := by
        cases hg : goodM m
        · obtain ⟨h1, h2⟩ := h4' hg
          exact ⟨_, _, _, _, h1, h2, .inr ⟨rfl, rfl⟩⟩
        · obtain ⟨v, h1, h2, h3⟩ := h4 hg
          obtain ⟨A', c', e2, ba⟩ := own_bytes h2 rfl
          subst e2
          exact ⟨_, _, _, _, h1, h3, .inl ⟨rfl, rfl, _, rfl, rfl, ba⟩⟩
      obtain ⟨A, nL, c, ek, rfl, b4, hE⟩ := hE.out
      replace hE := Lib.hid hE
      have F4 := Lib.hid (four_ext F3.out b4)
      have M4 := Lib.hid (M3.out.ext b4)
      have K4 := Lib.hid (K3.out.ext b4)
      have H4 := Lib.hid (H3.out.ext b4)
      have B4 := Lib.hid (B3.out.trans (b4.mono B3.out.size))
      clear h4 h4' HE b4 F3 M3 K3 H3 B3
      go_upto_if 29 with fail
      go_cut [4, 7, 8] (fun _ _ _ wx => Below w.heap.size w wx ∧ Below w4.heap.size w4 wx)
      case first =>
        rcases hE.out with ⟨hg, rfl, L, hL, hnL, hba⟩ | ⟨hg, rfl⟩
        · have hdm : Hid (decM L = (m, 0)) := by rw [Hid, hL]; exact dec_sealed OKM.out hg
          have hln : nL ≤ 200004 := by rw [hnL, hL, sealB_len]; have := plainM_len OKM.out hg; omega
          have HD := Lib.hid (decM_any L w4 A nL c hba (by omega) F4.out)
          have BW : Hid (Below w4.heap.size w4 w4) := Below.refl _ _
          have B5 := B4
          have M5 := M4
          have K5 := K4
          clear hE hg hL hnL hba
          go_wp2_with fail
          refine HD.out.mono ?_
          rintro e w6 ⟨cs, rfl, ma, b6⟩
          rw [hdm.out] at ma ⊢
          dsimp only at ma ⊢
          clear HD hdm
          have KZ : Hid (Blk (w6.alloc (.cells Z.toArray 30)) w6.heap.size 30 Z.toArray) := Blk.new _ _ _
          have KQ : Hid (Blk ((w6.alloc (.cells Z.toArray 30)).setRow w6.heap.size cs.toArray) w6.heap.size 30 cs.toArray) := KZ.out.row _
          have BN : Hid (Below w6.heap.size w6 ((w6.alloc (.cells Z.toArray 30)).setRow w6.heap.size cs.toArray)) := below_setRow (below_new w6 _) (Nat.le_refl _) _
          have IKQ : Hid ((Tryz.prog.info? 30).map (·.size) = some cs.toArray.size) := ma.info
          have OKQ : Hid (cs.toArray.all (·.oneCell') = true) := ma.one
          have LKQ : Hid (cs.toArray.size = Z.toArray.size) := by rw [Hid, List.size_toArray, List.size_toArray, ma.len72, zl.out]
          have MI := Lib.hid ma
          have K7i := Lib.hid (K5.out.ext b6)
          have M7i := Lib.hid (M5.out.ext b6)
          have B7i := Lib.hid (B5.out.trans (b6.mono B5.out.size))
          have BW7i := Lib.hid (BW.out.trans (b6.mono BW.out.size))
          clear ma b6 K5 M5 B5 BW
          go_upto_region 6 with (first
            | (refine wpList_alloced (AL.out _) ?_)
            | (refine wpList_store_row rfl 30 _ _ (by rfl) w6.heap.size cs.toArray (by rfl) (by rfl) _ _ KZ.out IKQ.out LKQ.out.symm OKQ.out ?_))
          generalize ((w6.alloc (.cells Z.toArray 30)).setRow w6.heap.size cs.toArray) = w7 at *
          have K7 := Lib.hid (K7i.out.ext BN.out)
          have M7 := Lib.hid (M7i.out.ext BN.out)
          have B7 := Lib.hid (B7i.out.trans (BN.out.mono B7i.out.size))
          have BW7 := Lib.hid (BW7i.out.trans (BN.out.mono BW7i.out.size))
          have MQ := Lib.hid (MI.out.ext BN.out)
          clear KZ BN MI LKQ OKQ K7i M7i B7i BW7i
          generalize w6.heap.size = gq at *
          have HS := Lib.hid (rmsgSame_any m m w7 _ _ M7.out MQ.out)
          rw [decide_eq_true rfl] at HS
          clear M7 MQ
          go_wp2_with (first
            | (refine wpList_load_rowG (by kernel_rfl) 30 _ (by rfl) g1 (by rfl) _ _ _ _ K7.out underMsg rfl IA.out ?_)
            | (refine wpList_load_rowG (by kernel_rfl) 30 _ (by rfl) gq (by rfl) _ _ _ _ KQ.out underMsg rfl IKQ.out ?_))
          refine HS.out.mono ?_
          rintro e w8 ⟨rfl, b8⟩
          have B8 := Lib.hid (B7.out.trans (b8.mono B7.out.size))
          have BW8 := Lib.hid (BW7.out.trans (b8.mono BW7.out.size))
          clear b8 HS B7 BW7 K7 KQ
          go_wp2_with fail
          go_meet
          case rel => exact ⟨B8.out, BW8.out⟩
        · clear hE
          go_wp2_with fail
          go_meet
          case rel => exact ⟨B4.out, Below.refl _ _⟩
      case rest =>
        clear hE M4 K4
        obtain ⟨h1, h2⟩ := hcut
        have B5 := Lib.hid h1
        have H5 := Lib.hid (H4.out.ext h2)
        have F5 := Lib.hid (four_ext F4.out h2)
        clear h1 h2 B4 H4 F4
        have hbl := H5.out.len
        have HS := Lib.hid (rseal05_any bs wc A1 n1 c1 H5.out (by omega))
        go_wp2_with fail
        refine HS.out.mono ?_
        rintro e w7 ⟨v7, rfl, o7, b7⟩
        obtain ⟨L, hL⟩ : ∃ L, L = sealB bs := ⟨_, rfl⟩
        rw [← hL] at o7
        obtain ⟨nL, hnL⟩ : ∃ nL, nL = L.length := ⟨_, rfl⟩
        have hln : nL ≤ 3004 := by rw [hnL, hL, sealB_len]; omega
        rw [← hnL] at o7
        obtain ⟨A7, c7, rfl, ba7⟩ := own_bytes o7 hnL.symm
        have F7 := Lib.hid (four_ext F5.out b7)
        have B7 := Lib.hid (B5.out.trans (b7.mono B5.out.size))
        have BA7 := Lib.hid ba7
        replace hL := Lib.hid hL
        replace hnL := Lib.hid hnL
        clear o7 ba7 b7 HS B5 H5 F5
        have HD := Lib.hid (decM_any L w7 A7 nL c7 BA7.out (by omega) F7.out)
        obtain ⟨X, r, hX⟩ : ∃ X r, decM L = (X, r) := ⟨_, _, rfl⟩
        replace hX := Lib.hid hX
        go_wp2_with fail
        refine HD.out.mono ?_
        rintro e w8 ⟨cs, rfl, ma, b8⟩
        rw [hX.out] at ma ⊢
        dsimp only at ma ⊢
        clear HD
        have KZ : Hid (Blk (w8.alloc (.cells Z.toArray 30)) w8.heap.size 30 Z.toArray) := Blk.new _ _ _
        have KQ : Hid (Blk ((w8.alloc (.cells Z.toArray 30)).setRow w8.heap.size cs.toArray) w8.heap.size 30 cs.toArray) := KZ.out.row _
        have BN : Hid (Below w8.heap.size w8 ((w8.alloc (.cells Z.toArray 30)).setRow w8.heap.size cs.toArray)) := below_setRow (below_new w8 _) (Nat.le_refl _) _
        have IKQ : Hid ((Tryz.prog.info? 30).map (·.size) = some cs.toArray.size) := ma.info
        have OKQ : Hid (cs.toArray.all (·.oneCell') = true) := ma.one
        have LKQ : Hid (cs.toArray.size = Z.toArray.size) := by rw [Hid, List.size_toArray, List.size_toArray, ma.len72, zl.out]
        have MI := Lib.hid ma
        have BA9i := Lib.hid (BA7.out.ext b8)
        have F9i := Lib.hid (four_ext F7.out b8)
        have B9i := Lib.hid (B7.out.trans (b8.mono B7.out.size))
        clear ma b8 BA7 F7 B7
        go_upto_region 10 with (first
          | (refine wpList_alloced (AL.out _) ?_)
          | (refine wpList_store_row rfl 30 _ _ (by rfl) w8.heap.size cs.toArray (by rfl) (by rfl) _ _ KZ.out IKQ.out LKQ.out.symm OKQ.out ?_))
        generalize ((w8.alloc (.cells Z.toArray 30)).setRow w8.heap.size cs.toArray) = w9 at *
        have BA9 := Lib.hid (BA9i.out.ext BN.out)
        have F9 := Lib.hid (four_ext F9i.out BN.out)
        have B9 := Lib.hid (B9i.out.trans (BN.out.mono B9i.out.size))
        have MQ := Lib.hid (MI.out.ext BN.out)
        clear KZ BN MI LKQ OKQ BA9i F9i B9i
        generalize w8.heap.size = gq at *
        go_upto_if 51 with fail
        go_cut [4, 12, 13] (fun _ _ _ wx => Below w.heap.size w wx ∧ FourOk wx)
        case first =>
          by_cases hr : r = 0
          · subst hr
            obtain ⟨hgX, hsX⟩ := sealed_dec hX.out
            have HE := Lib.hid (encM_any X w9 cs MQ.out F9.out)
            replace hgX := Lib.hid hgX
            replace hsX := Lib.hid hsX
            clear hX
            go_wp2_with (refine wpList_load_row rfl 30 _ (by rfl) gq (by rfl) _ _ _ _ KQ.out underMsg rfl IKQ.out ?_)
            refine HE.out.mono ?_
            rintro e wa ⟨h4, -⟩
            obtain ⟨v, rfl, own, ba⟩ := h4 hgX.out
            rw [hsX.out, ← hnL.out] at own
            obtain ⟨Aa, cc, rfl, bya⟩ := own_bytes own hnL.out.symm
            have Fa := Lib.hid (four_ext F9.out ba)
            have Ba := Lib.hid (B9.out.trans (ba.mono B9.out.size))
            have KQa := Lib.hid (KQ.out.ext ba)
            have MQa := Lib.hid (MQ.out.ext ba)
            obtain ⟨S, hS⟩ : ∃ S, S = bytesOf L := ⟨_, rfl⟩
            have CV1 : Hid ((convert 35 9 (.slice Aa nL cc)).run Tryz.prog wa = .ok (.string S) wa) := by rw [Hid, hS]; exact strB_run bya.sl bya.len
            have CV2 : Hid ((convert 35 9 (.slice A7 nL c7)).run Tryz.prog wa = .ok (.string S) wa) := by rw [Hid, hS]; exact strB_run (BA9.out.ext ba).sl BA9.out.len
            have HG := Lib.hid (rmsgGood_any X wa cs MQa.out)
            rw [hgX.out] at HG
            clear h4 own bya ba hS HE KQ MQ F9 B9 BA9 MQa
            go_wp2_with (first
              | (refine wpList_convG (by kernel_rfl) _ _ _ (by rfl) (by rfl) CV1.out ?_)
              | (refine wpList_convG (by kernel_rfl) _ _ _ (by rfl) (by rfl) CV2.out ?_)
              | (refine wpList_load_rowG (by kernel_rfl) 30 _ (by rfl) gq (by rfl) _ _ _ _ KQa.out underMsg rfl IKQ.out ?_))
            refine HG.out.mono ?_
            rintro e wb ⟨rfl, bb⟩
            have Fb := Lib.hid (four_ext Fa.out bb)
            have Bb := Lib.hid (Ba.out.trans (bb.mono Ba.out.size))
            clear bb HG
            go_wp2_with fail
            go_meet
            case rel => exact ⟨Bb.out, Fb.out⟩
          · have zr : ((r : Int) == 0) = false := by rw [beq_eq_false_iff_ne]; omega
            replace hr := Lib.hid hr
            go_wp2_with fail
            go_meet
            case rel => exact ⟨B9.out, F9.out⟩
        case rest =>
          obtain ⟨h1, h2⟩ := hcut
          have Be := Lib.hid h1
          have Fe := Lib.hid h2
          clear h1 h2 B9 F9 BA9 KQ MQ
          go_wp2_with fail
          refine (works34 _ Fe.out).mono ?_
          rintro e wz ⟨rfl, bz⟩
          go_wp2
          go_ret
          exact ⟨rfl, Be.out.trans (bz.mono Be.out.size)⟩
    · have hni : (3000 < (n1 : Int)) := by omega
      go_wp2_with (refine wpList_load_row rfl 30 _ (by rfl) g1 (by rfl) _ _ _ _ K1.out underMsg rfl IA.out ?_)
      refine HF1.out.mono ?_
      rintro e w3 ⟨rfl, b3⟩
      have F3 := Lib.hid (four_ext F0.out b3)
      have B3 := Lib.hid (B0.out.trans (b3.mono B0.out.size))
      clear b3 HF1 F0 B0
      go_wp2_with fail
      refine (works34 w3 F3.out).mono ?_
      rintro e wz ⟨rfl, bz⟩
      go_wp2
      go_ret
      exact ⟨rfl, B3.out.trans (bz.mono B3.out.size)⟩
end Go.Proofs.YtdafiipedlglpaaGreatDoor
