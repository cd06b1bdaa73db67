/- Texts of general use, one behind another. -/
import Derived.Test.YtdafiipedlglpaaGreatDoorMsgm
import Derived.Test.YtdafiipedlglpaaGreatDoorPcds
import Derived.Test.YtdafiipedlglpaaGreatDoorPato
import Derived.Test.YtdafiipedlglpaaGreatDoorMsgb
import Derived.Test.YtdafiipedlglpaaGreatDoorCrcs
import Derived.Test.YtdafiipedlglpaaGreatDoorPaws
import Derived.Test.YtdafiipedlglpaaGreatDoorGen
import Derived.Test.YtdafiipedlglpaaGreatDoorTie
import Derived.Test.YtdafiipedlglpaaGreatDoorCards
import Derived.LaidMore
import Derived.Stop.Joined
import Derived.Stop.LaidErr
import Derived.Lib.LaidTab
import Derived.SevenTiedAt

/- The chapter's example of a message; whether a message is few and small: walked. -/
namespace Go.Proofs.YtdafiipedlglpaaGreatDoor
open Go.RowKit

section
variable {P : Program} {ops : Array Oper} {rest : List Oper} {a : Act} {w : World} {Q : Exit → Act → World → Prop} {d : Option Tmp} {ty t : TypeId} {pos : String} {after : Array Edge} {gd : Option (Nat × Bool)} {x : Operand}
theorem wpList_slG {lo hi mx : Option Operand} (hw : Region.wanted ⟨d, .slice t x lo hi mx, ty, pos, after, gd⟩ (yielded ops a.tmps) = true) {xv v : Value} {lv hv mv : Option Value} (hx : a.eval x = xv) (hl : lo.map a.eval = lv) (hh : hi.map a.eval = hv) (hm : mx.map a.eval = mv) (hr : (Instr.sliceAt t xv lv hv mv).run P w = .ok v w)
    (h : wpList P ops Q rest (a.put d v) w) : wpList P ops Q (⟨d, .slice t x lo hi mx, ty, pos, after, gd⟩ :: rest) a w :=
  wpList_wanted hw fun _ hK => by
    unfold Oper.wp execOp
    simp only [hx, hl, hh, hm, Sem.run_bind, hr, Result.andThen_ok, Sem.run_pure]
    exact hK _ _ h
end
theorem msgC_raw (m : MsgV) (A : Option Addr) (n c : Nat) : msgC m A n c = rawC m.1.1.val m.1.2.1.val m.1.2.2.val m.2.1 m.2.2.1 A n c := rfl
theorem MsgAt.len72 {w : World} {cs : List Value} {m : MsgV} (h : MsgAt w cs m) : cs.length = 72 := by
  obtain ⟨A, c, e, _⟩ := h.ex
  rw [e, msgC_len h.ok]
theorem MsgAt.one {w : World} {cs : List Value} {m : MsgV} (h : MsgAt w cs m) : cs.toArray.all (·.oneCell') = true := by
  obtain ⟨A, c, e, _⟩ := h.ex
  rw [e, msgC_raw]
  exact rawC_one _ _ _ _ _ _ _ _
theorem MsgAt.info {w : World} {cs : List Value} {m : MsgV} (h : MsgAt w cs m) : (Tryz.prog.info? 30).map (·.size) = some cs.toArray.size := by
  rw [List.size_toArray, h.len72]
  exact infoMsg
set_option maxRecDepth 100000 in
set_option maxHeartbeats 4000000 in
theorem few34_any (m : MsgV) (w : World) (cs : List Value) (h : MsgAt w cs m) : Calls Tryz.prog 13 #[.agg cs.toArray] w (RetB w (.int .i64 (fewsN m.2.2.2 12))) := by
  have K : Hid (Blk (w.alloc (.cells cs.toArray 30)) w.heap.size 30 cs.toArray) := Blk.new _ _ _
  have B0 : Hid (Below w.heap.size w (w.alloc (.cells cs.toArray 30))) := below_new _ _
  have M0 := Lib.hid (h.ext B0.out)
  obtain ⟨A, c, e, hp⟩ := M0.out.ex
  have y71 : (w.alloc (.cells cs.toArray 30)).cell? ⟨w.heap.size, 71, none⟩ = some (.slice A m.2.2.2.length c) := by
    have h1 := K.out
    rw [e] at h1 ⊢
    exact msg_pats h.ok h1
  have HF := Lib.hid (few20_any m.2.2.2 _ A m.2.2.2.length c 12 hp h.small)
  clear h hp e M0 K
  go_enter Tryz.func13, Tryz.ntmps13
  go_upto_region 1 with fail
  generalize (w.alloc (.cells cs.toArray 30)) = w2 at *
  generalize w.heap.size = g at y71 ⊢
  go_wp2_with fail
  refine HF.out.mono ?_
  rintro e w3 ⟨rfl, b3⟩
  go_wp2
  go_ret
  exact ⟨rfl, B0.out.trans (b3.mono B0.out.size)⟩
def w34m : MsgV := ((1, 1, 2), vec0, zeroBl, [])
theorem w34_good : goodM w34m = true := by kernel_rfl
theorem w34_plain : plainM w34m = [1, 1, 2, 0, 0, 0, 0, 0] := by kernel_rfl
theorem w34_ok : MsgOk w34m := ⟨vec0_ok, zeroBl_ok⟩
theorem w34_at (w : World) : MsgAt w (rawC 1 1 2 vec0 zeroBl none 0 0) w34m := ⟨w34_ok, ⟨none, 0, rfl, ⟨rfl, [], ⟨rfl, fun _ _ _ h => by simp at h⟩, ⟨rfl, fun h => absurd h (by decide)⟩⟩⟩, by decide⟩
theorem w34_take (t : List UInt8) : bytesOf ((([1, 1, 2, 0, 0, 0, 0, 0] : List UInt8) ++ t).take 8) = ⟨#[1, 1, 2, 0, 0, 0, 0, 0]⟩ := rfl
set_option maxRecDepth 100000 in
set_option maxHeartbeats 8000000 in
theorem works34 (w : World) (hF : FourOk w) : Calls Tryz.prog 14 #[] w (RetB w (.bool true)) := by
  obtain ⟨Z, hZ⟩ : ∃ Z, Z = rawC 0 0 0 vec0 zeroBl none 0 0 := ⟨_, rfl⟩
  have AL : Hid (∀ u : World, (Instr.alloc 30 true (.tuple #[])).run Tryz.prog u = .ok (.pointer (some ⟨u.heap.size, 0, none⟩)) (u.alloc (.cells Z.toArray 30))) := by rw [Hid, hZ]; exact allocMsg
  have zl : Hid (Z.length = 72) := by rw [Hid, hZ]; exact rawC_len vec0_ok zeroBl_ok none 0 0
  replace hZ := Lib.hid hZ
  obtain ⟨C0, hC0⟩ : ∃ C0, C0 = rawC 1 1 2 vec0 zeroBl none 0 0 := ⟨_, rfl⟩
  have BM : Hid (∀ u : World, (Instr.build 30 #[(0, .int .u8 1), (1, .int .u8 1), (2, .int .u8 2)]).run Tryz.prog u = .ok (.agg C0.toArray) u) := by rw [Hid, hC0]; exact buildMsg3 1 1 2
  have MA : Hid (∀ u, MsgAt u C0 w34m) := by rw [Hid, hC0]; exact w34_at
  replace hC0 := Lib.hid hC0
  have IM := Lib.hid (MA.out w).info
  have OM := Lib.hid (MA.out w).one
  have LM : Hid (C0.toArray.size = Z.toArray.size) := by rw [Hid, List.size_toArray, List.size_toArray, (MA.out w).len72, zl.out]
  have KZ : Hid (Blk (w.alloc (.cells Z.toArray 30)) w.heap.size 30 Z.toArray) := Blk.new _ _ _
  have K2 : Hid (Blk ((w.alloc (.cells Z.toArray 30)).setRow w.heap.size C0.toArray) w.heap.size 30 C0.toArray) := KZ.out.row _
  have B2 : Hid (Below w.heap.size w ((w.alloc (.cells Z.toArray 30)).setRow w.heap.size C0.toArray)) := below_setRow (below_new w _) (Nat.le_refl _) _
  have F2 := Lib.hid (four_ext hF B2.out)
  clear hF
  go_enter Tryz.func14, Tryz.ntmps14
  go_upto_region 2 with (first
    | (refine wpList_built (BM.out _) ?_ ?_; simp only [List.map_toArray, List.map_cons, List.map_nil]; rfl)
    | (refine wpList_alloced (AL.out _) ?_)
    | (refine wpList_store_row rfl 30 _ _ (by rfl) w.heap.size C0.toArray (by rfl) (by rfl) _ _ KZ.out IM.out LM.out.symm OM.out ?_))
  generalize ((w.alloc (.cells Z.toArray 30)).setRow w.heap.size C0.toArray) = w2 at *
  obtain ⟨gp, hgp⟩ : ∃ gp, gp = w.heap.size := ⟨_, rfl⟩
  rw [← hgp] at K2 ⊢
  clear hgp KZ LM OM
  have HE := Lib.hid (encM_any w34m w2 C0 (MA.out _) F2.out)
  go_wp2_with (refine wpList_load_row rfl 30 _ (by rfl) gp (by rfl) _ _ _ _ K2.out underMsg rfl IM.out ?_)
  refine HE.out.mono ?_
  rintro e w3 ⟨h3, -⟩
  obtain ⟨v, rfl, own, b3⟩ := h3 w34_good
  obtain ⟨L, hL⟩ : ∃ L, L = sealB (plainM w34m) := ⟨_, rfl⟩
  have hLd : Hid (decM L = (w34m, 0)) := by rw [Hid, hL]; exact dec_sealed w34_ok w34_good
  have hL12 : L.length = 12 := by rw [hL, sealB_len, w34_plain]; rfl
  have hLt : Hid (bytesOf (L.take 8) = ⟨#[1, 1, 2, 0, 0, 0, 0, 0]⟩) := by rw [Hid, hL, w34_plain]; exact w34_take _
  rw [← hL] at own
  rw [hL12] at own
  obtain ⟨A, c, rfl, ba⟩ := own_bytes (n := 12) (l := L) own hL12
  have F3 := Lib.hid (four_ext F2.out b3)
  have K3 := Lib.hid (K2.out.ext b3)
  have B3 := Lib.hid (B2.out.trans (b3.mono B2.out.size))
  have BA := Lib.hid ba
  have HD := Lib.hid (decM_any L w3 A 12 c ba (by omega) F3.out)
  replace hL := Lib.hid hL
  replace hL12 := Lib.hid hL12
  clear h3 own ba HE b3 K2 B2 F2
  go_wp2_with fail
  refine HD.out.mono ?_
  rintro e w4 ⟨cs, rfl, ma, b4⟩
  rw [hLd.out] at ma ⊢
  dsimp only at ma ⊢
  clear HD hLd
  have KZ : Hid (Blk (w4.alloc (.cells Z.toArray 30)) w4.heap.size 30 Z.toArray) := Blk.new _ _ _
  have KQ : Hid (Blk ((w4.alloc (.cells Z.toArray 30)).setRow w4.heap.size cs.toArray) w4.heap.size 30 cs.toArray) := KZ.out.row _
  have BN : Hid (Below w4.heap.size w4 ((w4.alloc (.cells Z.toArray 30)).setRow w4.heap.size cs.toArray)) := below_setRow (below_new w4 _) (Nat.le_refl _) _
  have IKQ : Hid ((Tryz.prog.info? 30).map (·.size) = some cs.toArray.size) := ma.info
  have OKQ : Hid (cs.toArray.all (·.oneCell') = true) := ma.one
  have LKQ : Hid (cs.toArray.size = Z.toArray.size) := by rw [Hid, List.size_toArray, List.size_toArray, ma.len72, zl.out]
  have MI := Lib.hid ma
  have K5i := Lib.hid (K3.out.ext b4)
  have B5i := Lib.hid (B3.out.trans (b4.mono B3.out.size))
  have BA5i := Lib.hid (BA.out.ext b4)
  clear ma b4 K3 B3 BA
  go_upto_region 4 with (first
    | (refine wpList_alloced (AL.out _) ?_)
    | (refine wpList_store_row rfl 30 _ _ (by rfl) w4.heap.size cs.toArray (by rfl) (by rfl) _ _ KZ.out IKQ.out LKQ.out.symm OKQ.out ?_))
  generalize ((w4.alloc (.cells Z.toArray 30)).setRow w4.heap.size cs.toArray) = w5 at *
  have K5 := Lib.hid (K5i.out.ext BN.out)
  have B5 := Lib.hid (B5i.out.trans (BN.out.mono B5i.out.size))
  have BA5 := Lib.hid (BA5i.out.ext BN.out)
  have MQ := Lib.hid (MI.out.ext BN.out)
  clear KZ BN MI LKQ OKQ K5i B5i BA5i
  generalize w4.heap.size = gq at *
  have CL := Lib.hid (fun u => run_slice_high byteSl (A := A) (n := 12) (c := c) (k := 8) (by have := BA5.out.cap; omega) u)
  have BT := Lib.hid (BA5.out.top (k := 8) (by omega))
  have CV := Lib.hid (strB_run (c := c) BT.out.sl BT.out.len)
  rw [hLt.out] at CV
  generalize cutAddr A c 0 1 = A8 at *
  have HS := Lib.hid (msgSame_any w34m w34m w5 C0 cs (MA.out _) MQ.out)
  rw [decide_eq_true rfl] at HS
  clear BT BA5 hLt F3 MQ
  go_wp2_with (first
    | (refine wpList_slG (by kernel_rfl) rfl rfl rfl rfl (CL.out _) ?_)
    | (refine wpList_convG (by kernel_rfl) _ _ _ (by rfl) (by rfl) CV.out ?_)
    | (refine wpList_load_rowG (by kernel_rfl) 30 _ (by rfl) gp (by rfl) _ _ _ _ K5.out underMsg rfl IM.out ?_)
    | (refine wpList_load_rowG (by kernel_rfl) 30 _ (by rfl) gq (by rfl) _ _ _ _ KQ.out underMsg rfl IKQ.out ?_))
  refine HS.out.mono ?_
  rintro e w6 ⟨rfl, b6⟩
  have K6 := Lib.hid (K5.out.ext b6)
  have B6 := Lib.hid (B5.out.trans (b6.mono B5.out.size))
  have HG := Lib.hid (msgGood_any w34m w6 C0 (MA.out _))
  rw [w34_good] at HG
  clear b6 K5 KQ IKQ B5 HS CL CV
  go_wp2_with (refine wpList_load_rowG (by kernel_rfl) 30 _ (by rfl) gp (by rfl) _ _ _ _ K6.out underMsg rfl IM.out ?_)
  refine HG.out.mono ?_
  rintro e w7 ⟨rfl, b7⟩
  have B7 := Lib.hid (B6.out.trans (b7.mono B6.out.size))
  clear b7 B6 HG K6
  go_wp2
  go_ret
  exact ⟨rfl, B7.out⟩
end Go.Proofs.YtdafiipedlglpaaGreatDoor

/- MsgGood and MsgSpoilt: walked. -/
namespace Go.Proofs.YtdafiipedlglpaaGreatDoor
open Go.RowKit

set_option maxRecDepth 100000 in
set_option maxHeartbeats 8000000 in
theorem msgGood_walk (w : World) (m : MsgV) (ca : List Value) (hm : MsgAt w ca m) (q : MsgV) (cb : List Value) (hq : MsgAt w cb q) (hF : FourOk w) : Calls Tryz.prog 3 #[.agg ca.toArray, .agg cb.toArray] w (RetB w (.bool true)) := by
  have K1 : Hid (Blk ((w.alloc (.cells ca.toArray 30)).alloc (.cells cb.toArray 30)) w.heap.size 30 ca.toArray) := (Blk.new _ _ _).alloc _
  have K2 : Hid (Blk ((w.alloc (.cells ca.toArray 30)).alloc (.cells cb.toArray 30)) (w.heap.size + 1) 30 cb.toArray) := Blk.newAt (by simp) _ _
  have B0 : Hid (Below w.heap.size w ((w.alloc (.cells ca.toArray 30)).alloc (.cells cb.toArray 30))) := ((Below.refl _ _).alloc (Nat.le_refl _) _).alloc (by simp) _
  have M0 := Lib.hid (hm.ext B0.out)
  have Q0 := Lib.hid (hq.ext B0.out)
  have F0 := Lib.hid (four_ext hF B0.out)
  have IA := Lib.hid hm.info
  have IB := Lib.hid hq.info
  clear hm hq hF
  go_enter Tryz.func3, Tryz.ntmps3
  go_upto_region 1 with fail
  generalize ((w.alloc (.cells ca.toArray 30)).alloc (.cells cb.toArray 30)) = w2 at *
  obtain ⟨g2, hg2⟩ : ∃ g, g = w.heap.size + 1 := ⟨_, rfl⟩
  obtain ⟨g1, hg1⟩ : ∃ g, g = w.heap.size := ⟨_, rfl⟩
  rw [← hg2] at K2 ⊢
  rw [← hg1] at K1 ⊢
  clear hg1 hg2
  have HF1 := Lib.hid (few34_any m w2 _ M0.out)
  obtain ⟨N1, hN1⟩ : ∃ N, N = fewsN m.2.2.2 12 := ⟨_, rfl⟩
  rw [← hN1] at HF1
  clear hN1
  by_cases h1 : N1 = 0
  · have z1 : (N1 == 0) = true := by rw [beq_iff_eq]; exact h1
    replace h1 := Lib.hid h1
    go_wp2_with (refine wpList_load_row rfl 30 _ (by rfl) g1 (by rfl) _ _ _ _ K1.out underMsg rfl IA.out ?_)
    refine HF1.out.mono ?_
    rintro e w3 ⟨rfl, b3⟩
    have F3 := Lib.hid (four_ext F0.out b3)
    have B3 := Lib.hid (B0.out.trans (b3.mono B0.out.size))
    clear b3 HF1 F0 B0
    go_wp2_with fail
    refine (works34 w3 F3.out).mono ?_
    rintro e wz ⟨rfl, bz⟩
    go_wp2
    go_ret
    exact ⟨rfl, B3.out.trans (bz.mono B3.out.size)⟩
  · have z1 : (N1 == 0) = false := by rw [beq_eq_false_iff_ne]; exact h1
    replace h1 := Lib.hid h1
    go_wp2_with (refine wpList_load_row rfl 30 _ (by rfl) g1 (by rfl) _ _ _ _ K1.out underMsg rfl IA.out ?_)
    refine HF1.out.mono ?_
    rintro e w3 ⟨rfl, b3⟩
    have F3 := Lib.hid (four_ext F0.out b3)
    have B3 := Lib.hid (B0.out.trans (b3.mono B0.out.size))
    have M3 := Lib.hid (M0.out.ext b3)
    have Q3 := Lib.hid (Q0.out.ext b3)
    have K3 := Lib.hid (K1.out.ext b3)
    have J3 := Lib.hid (K2.out.ext b3)
    clear b3 HF1 F0 B0 M0 Q0 K1 K2
    have HF2 := Lib.hid (few34_any q w3 _ Q3.out)
    obtain ⟨N2, hN2⟩ : ∃ N, N = fewsN q.2.2.2 12 := ⟨_, rfl⟩
    rw [← hN2] at HF2
    clear hN2
    by_cases h2 : N2 = 0
    · have z2 : (N2 == 0) = true := by rw [beq_iff_eq]; exact h2
      replace h2 := Lib.hid h2
      go_wp2_with (refine wpList_load_rowG (by kernel_rfl) 30 _ (by rfl) g2 (by rfl) _ _ _ _ J3.out underMsg rfl IB.out ?_)
      refine HF2.out.mono ?_
      rintro e w4 ⟨rfl, b4⟩
      have F4 := Lib.hid (four_ext F3.out b4)
      have B4 := Lib.hid (B3.out.trans (b4.mono B3.out.size))
      clear b4 HF2 F3 B3
      go_wp2_with fail
      refine (works34 w4 F4.out).mono ?_
      rintro e wz ⟨rfl, bz⟩
      go_wp2
      go_ret
      exact ⟨rfl, B4.out.trans (bz.mono B4.out.size)⟩
    · have z2 : (N2 == 0) = false := by rw [beq_eq_false_iff_ne]; exact h2
      replace h2 := Lib.hid h2
      go_wp2_with (refine wpList_load_rowG (by kernel_rfl) 30 _ (by rfl) g2 (by rfl) _ _ _ _ J3.out underMsg rfl IB.out ?_)
      refine HF2.out.mono ?_
      rintro e w4 ⟨rfl, b4⟩
      have F4 := Lib.hid (four_ext F3.out b4)
      have B4 := Lib.hid (B3.out.trans (b4.mono B3.out.size))
      have M4 := Lib.hid (M3.out.ext b4)
      have Q4 := Lib.hid (Q3.out.ext b4)
      have K4 := Lib.hid (K3.out.ext b4)
      have J4 := Lib.hid (J3.out.ext b4)
      clear b4 HF2 F3 B3 M3 Q3 K3 J3
      have H1 := Lib.hid (fun z : Ext w4 => msgGood_any m z.w _ (M4.out.ext z.h))
      have H2 := Lib.hid (fun z : Ext w4 => rmsgGood_any m z.w _ (M4.out.ext z.h))
      have H3 := Lib.hid (fun z : Ext w4 => msgSame_any m q z.w _ _ (M4.out.ext z.h) (Q4.out.ext z.h))
      have H4 := Lib.hid (fun z : Ext w4 => rmsgSame_any m q z.w _ _ (M4.out.ext z.h) (Q4.out.ext z.h))
      have H5 : Hid (∀ z : Ext w4, Calls Tryz.prog 17 #[.agg ca.toArray, .agg ca.toArray] z.w (RetB z.w (.bool true))) := fun z => by
        have := msgSame_any m m z.w _ _ (M4.out.ext z.h) (M4.out.ext z.h)
        rwa [decide_eq_true rfl] at this
      have H6 := Lib.hid (fun z : Ext w4 => works34 z.w (four_ext F4.out z.h))
      generalize goodM m = gd at *
      generalize decide (m = q) = dd at *
      have EQ : ∀ (b : Bool) (u : World), (binOp .eql 4 (.bool b) (.bool b)).run Tryz.prog u = .ok (.bool true) u := fun b u => by cases b <;> kernel_rfl
      have EG := EQ gd
      have ED := EQ dd
      have CA := Lib.hid K4.out
      clear M4 Q4 EQ
      generalize ca.toArray = CAA at *
      generalize cb.toArray = CBB at *
      go_wp2_with fail
      refine wp_region_ext mixedS (by kernel_rfl) ?_
      repeat (first
        | go_big_quiet_skip
        | ((with_reducible refine wpQuiet_load_row K4.out underMsg ?_ IA.out ?_ ?_ ?_); rfl; rfl; rfl; simp only [List.set_cons_succ, List.set_cons_zero])
        | ((with_reducible refine wpQuiet_load_row J4.out underMsg ?_ IB.out ?_ ?_ ?_); rfl; rfl; rfl; simp only [List.set_cons_succ, List.set_cons_zero])
        | go_big_quiet_step ((first
          | (go_at_call 15; exact ext_call (H1.out _))
          | (go_at_call 16; exact ext_call (H2.out _))
          | (go_at_call 17; first | (with_reducible exact ext_call (H5.out _)) | (with_reducible exact ext_call (H3.out _)))
          | (go_at_call 18; exact ext_call (H4.out _))
          | (go_at_call 14; exact ext_call (H6.out _)))))
      refine wpQuiet_nil ?_
      rintro _ ⟨z, rfl⟩
      have W := Lib.hid z.h
      generalize z.w = w5 at *
      go_wp2
      go_ret
      exact ⟨rfl, B4.out.trans (W.out.mono B4.out.size)⟩
end Go.Proofs.YtdafiipedlglpaaGreatDoor

/- A message that is handed in, opened; what is listed with these statements: the table of crc. -/
namespace Go.Proofs.YtdafiipedlglpaaGreatDoor
open Go.ChangeShapes Go.WideShapes Go.ChangeAt Go.RowKit

def shMsg : List Sh := .int .u8 :: .int .u8 :: .int .u8 :: (List.replicate 64 (.int .u16) ++ (List.replicate 4 (.int .u64) ++ [.sl shPat]))
theorem oks_cut {w : World} {B : Nat} : ∀ (xs ys : List Sh) (cs : List Value), Sh.oks w B (xs ++ ys) cs → ∃ xa bs, cs = xa ++ bs ∧ Sh.oks w B xs xa ∧ Sh.oks w B ys bs
  | [], ys, cs, h => ⟨[], cs, rfl, by rw [Sh.oks]; trivial, h⟩
  | x :: xs, ys, [], h => by have := Sh.oks_len h; simp at this
  | x :: xs, ys, c :: cs, h => by
    rw [List.cons_append, Sh.oks] at h
    obtain ⟨xa, bs, rfl, h1, h2⟩ := oks_cut xs ys cs h.2
    exact ⟨c :: xa, bs, rfl, by rw [Sh.oks]; exact ⟨h.1, h1⟩, h2⟩
theorem oks_intsK {w : World} {B : Nat} {k : IntKind} : ∀ (m : Nat) (cs : List Value), Sh.oks w B (List.replicate m (.int k)) cs → ∃ zs : List Int, cs = zs.map (Value.int k) ∧ zs.length = m ∧ ∀ z ∈ zs, (Lit.int k z).wf = true
  | 0, [], _ => ⟨[], rfl, rfl, by simp⟩
  | 0, _ :: _, h => by have := Sh.oks_len h; simp at this
  | _ + 1, [], h => by have := Sh.oks_len h; simp at this
  | m + 1, c :: cs, h => by
    rw [List.replicate_succ, Sh.oks] at h
    obtain ⟨⟨z, rfl, hz⟩, h2⟩ := h
    obtain ⟨zs, rfl, h3, h4⟩ := oks_intsK m cs h2
    exact ⟨z :: zs, rfl, by simp [h3], fun y hy => (List.mem_cons.1 hy).elim (fun e => e ▸ hz) (h4 y)⟩
theorem u64_nat {z : Int} (h : (Lit.int .u64 z).wf = true) : ∃ n : Nat, z = (n : Int) ∧ n < 18446744073709551616 := by
  have : 0 ≤ z ∧ z < 18446744073709551616 := by simp [Lit.wf, IntKind.min, IntKind.max, IntKind.signed, IntKind.bits] at h; omega
  exact ⟨z.toNat, by omega, by omega⟩
theorem bl_of : ∀ (zs : List Int), (∀ z ∈ zs, (Lit.int .u64 z).wf = true) → ∃ bl : List Nat, zs.map (Value.int .u64) = encBl bl ∧ bl.length = zs.length ∧ ∀ x ∈ bl, x < 18446744073709551616
  | [], _ => ⟨[], rfl, rfl, fun x hx => by cases hx⟩
  | z :: zs, h => by
    obtain ⟨n, rfl, hn⟩ := u64_nat (h z (by simp))
    obtain ⟨bl, h1, h2, h3⟩ := bl_of zs fun y hy => h y (by simp [hy])
    refine ⟨n :: bl, ?_, by simp [h2], fun x hx => (List.mem_cons.1 hx).elim (fun e => e ▸ hn) (h3 x)⟩
    rw [List.map_cons, h1]
    rfl
theorem msg_of {w : World} {cs : List Value} (h : Sh.oks w w.heap.size shMsg cs) : ∃ m : MsgV, MsgAt w cs m := by
  have hlen := Sh.oks_len h
  have e0 : shMsg.length = 72 := by decide
  match cs, h with
  | k :: f :: t :: rest, h =>
    unfold shMsg at h
    rw [Sh.oks, Sh.oks, Sh.oks] at h
    obtain ⟨⟨z, rfl, hz⟩, ⟨y, rfl, hy⟩, ⟨x, rfl, hx⟩, h⟩ := h
    obtain ⟨z, rfl⟩ := fin8_of hz
    obtain ⟨y, rfl⟩ := fin8_of hy
    obtain ⟨x, rfl⟩ := fin8_of hx
    obtain ⟨xa, bs, rfl, h1, h2⟩ := oks_cut _ _ _ h
    obtain ⟨bs, ds, rfl, h2, h3⟩ := oks_cut _ _ _ h2
    obtain ⟨vs, rfl, v1, v2⟩ := oks_intsK 64 xa h1
    obtain ⟨zs, rfl, z1, z2⟩ := oks_intsK 4 bs h2
    obtain ⟨bl, b1, b2, b3⟩ := bl_of zs z2
    match ds, h3 with
    | [d], h3 =>
      simp only [Sh.oks, Sh.ok] at h3
      obtain ⟨⟨A, n, c, rows, rfl, k1, k2, k3, k4, k5⟩, _⟩ := h3
      obtain ⟨ps, hp⟩ := pats_of k3 (fun r hr => by have := k4 r hr; simpa only [Sh.oks, Sh.ok] using this) k5
      have e1 := hp.1
      subst e1
      refine ⟨((z, y, x), vs, bl, ps), ⟨vecOk_of v1 v2, ⟨by rw [b2, z1], b3⟩⟩, ⟨A, c, ?_, hp⟩, Nat.le_trans k1 k2⟩
      rw [b1]
      rfl
  | [], h => simp at hlen; omega
  | [_], h => simp at hlen; omega
  | [_, _], h => simp at hlen; omega

abbrev laidL : List (String × DataW Unit) := [("bruit/crc.four", Rows.laid_bruit_crc_four)]
abbrev laidKs : List LaidKind := [.data]
abbrev harnessL : Bool × String := (true, "330ec8c40367bc157e086e405dce7ad406f5624e56553dc0749f9d23023ca6d7")
theorem door_met (os : Os) (args : Array Value) : laidMetH Tryz.prog laidL ((World.doorLaid Tryz.prog 400 os).forCall (fun _ _ => 0) ⟨#[], args, []⟩).memory :=
  laidMetH_of_parts3 (fuel := 8) (laidMet_of_run' 8 (by kernel_rfl) (by kernel_rfl)) (by kernel_rfl) (by kernel_rfl)
theorem tabOk_of {W : World} (h : laidMetH Tryz.prog laidL W) : FourOk W := by
  rw [MakeChecks.laidMetH_plain _ _ _ (by kernel_rfl)] at h
  exact Lib.tabIs_of_head (g := 0) (k := .u32) (zs := tabC.map fun (r : B32) => ((r.toNat : Nat) : Int)) (rest := []) gFour (by kernel_rfl) Tryz.underlying300 Tryz.underlying47 (by kernel_rfl) (by kernel_rfl) h
end Go.Proofs.YtdafiipedlglpaaGreatDoor
