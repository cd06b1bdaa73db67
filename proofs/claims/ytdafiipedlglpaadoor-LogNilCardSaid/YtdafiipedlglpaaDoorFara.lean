/- What is decoded lies in new blocks: walked. -/
import Derived.Test.YtdafiipedlglpaaDoorPcds
import Derived.Test.YtdafiipedlglpaaDoorIdxw
namespace Go.Proofs.YtdafiipedlglpaaDoor
open Go.RowKit

def MadeFar (w : World) (q : PatV) (n : Int) (e : Ending) (w' : World) : Prop := ∃ cs : List Value, e = .returned (.tuple #[.agg cs.toArray, .int .i64 n]) ∧ PatIn w' (fun k => w.heap.size ≤ k) cs q ∧ Below w.heap.size w w'
theorem zero_in (w : World) (G : Nat → Prop) : PatIn w G [.int .u8 0, .int .u16 0, .slice none 0 0, .slice none 0 0] zeroPat :=
  ⟨⟨none, 0, none, 0, rfl, ⟨rfl, rfl, fun h => absurd h (by decide)⟩, ⟨rfl, ⟨rfl, fun h => absurd h (by decide)⟩, by simp [zeroPat]⟩, fun h => absurd h (by decide), fun h => absurd h (by decide)⟩, by decide, by decide⟩
set_option maxRecDepth 100000 in
set_option maxHeartbeats 4000000 in
theorem make18_far (id : PidV) (l : List OpV) (w : World) (A : Option Addr) (n c : Nat) (hn : n ≤ 300) (h : OpsAt w A n l) :
    Calls Tryd.prog 34 #[.agg (encP id).toArray, .slice A n c] w (MadeFar w (makeV18 id l) (makeN18 id l)) := by
  have K1 : Hid (Blk ((w.alloc (.cells (encP id).toArray 24)).alloc (.cells #[.int .u8 0, .int .u16 0, .slice none 0 0, .slice none 0 0] 28)) w.heap.size 24 (encP id).toArray) := (Blk.new _ _ _).alloc _
  have K2 : Hid (Blk ((w.alloc (.cells (encP id).toArray 24)).alloc (.cells #[.int .u8 0, .int .u16 0, .slice none 0 0, .slice none 0 0] 28)) (w.heap.size + 1) 28 #[.int .u8 0, .int .u16 0, .slice none 0 0, .slice none 0 0]) := Blk.newAt (by simp) _ _
  have B0 : Hid (Below w.heap.size w ((w.alloc (.cells (encP id).toArray 24)).alloc (.cells #[.int .u8 0, .int .u16 0, .slice none 0 0, .slice none 0 0] 28))) := ((Below.refl _ _).alloc (Nat.le_refl _) _).alloc (by simp) _
  have hcD : ∀ args u, (callFunc 53 args).run Tryd.prog u = .ok (.enter 53 args) u := enters_of Tryd.func53 (by kernel_rfl) rfl
  have hcC : ∀ args u, (callFunc 54 args).run Tryd.prog u = .ok (.enter 54 args) u := enters_of Tryd.func54 (by kernel_rfl) rfl
  go_enter Tryd.func34, Tryd.ntmps34
  go_upto_region 1 with fail
  generalize ((w.alloc (.cells (encP id).toArray 24)).alloc (.cells #[.int .u8 0, .int .u16 0, .slice none 0 0, .slice none 0 0] 28)) = w2 at *
  have L2 := Lib.hid (h.ext B0.out)
  have HD := Lib.hid (fun (u : World) (hu : Below w2.heap.size w2 u) => depsP id l u A n c hn (L2.out.ext hu))
  have HC := Lib.hid (fun (u : World) (hu : Below w2.heap.size w2 u) => cloneO l u A n c (by omega) (L2.out.ext hu))
  have L0 := Lib.hid h
  clear h
  go_cut [6] (fun s wx => ∃ (g : Nat) (A1 : Option Addr) (c1 : Nat) (A2 : Option Addr) (c2 : Nat), s = .pointer (some ⟨g, 0, none⟩) ∧ Blk wx g 28 (patC id A1 (depsV id l).length c1 A2 n c2).toArray ∧ wx.ownsRow w2.heap.size 24 2 (.slice A1 (depsV id l).length c1) (depsV id l).length ((depsV id l).flatMap encP) ∧ wx.ownsRow w2.heap.size 45 8 (.slice A2 n c2) n (l.flatMap encO) ∧ Below w2.heap.size w2 wx)
  case first =>
    refine wp_region_held (S := fun w' => Below w2.heap.size w2 w') mixedS ?_
    have B3 : Hid (Below w2.heap.size w2 w2.drew) := (Below.refl _ _).drew
    change wpAnyH _ _ _ _ _ _ _ _ w2.drew
    generalize w2.drew = w3 at *
    simp only [List.size_toArray, List.length_cons, List.length_nil]
    refine take_row (i := 0) rfl (by kernel_rfl) (by kernel_rfl) (by kernel_rfl) (fun _ _ _ h => h) rfl rfl (fun _ h => K1.out.ext h) underPid rfl infoPid B3.out ?_
    simp only [Act.put, List.setIfInBounds_toArray, List.set_cons_zero, List.set_cons_succ]
    refine take_row (i := 1) rfl (by kernel_rfl) (by kernel_rfl) (by kernel_rfl) (fun _ _ _ h => h) rfl rfl (fun _ h => K1.out.ext h) underPid rfl infoPid B3.out ?_
    simp only [Act.put, List.setIfInBounds_toArray, List.set_cons_zero, List.set_cons_succ]
    refine take_move (i := 2) (v := (.slice A n c)) rfl (by kernel_rfl) (by kernel_rfl) (by kernel_rfl) (fun _ _ _ h => h) rfl rfl B3.out ?_
    simp only [Act.put, List.setIfInBounds_toArray, List.set_cons_zero, List.set_cons_succ]
    refine take_move (i := 4) (v := (.slice A n c)) rfl (by kernel_rfl) (by kernel_rfl) (by kernel_rfl) (fun _ _ _ h => h) rfl rfl B3.out ?_
    simp only [Act.put, List.setIfInBounds_toArray, List.set_cons_zero, List.set_cons_succ]
    refine wpAnyH_all (rs := [3, 7]) (by kernel_rfl) (by simp) ?_
    intro i hi
    simp only [List.mem_cons, List.not_mem_nil, or_false] at hi
    rcases hi with rfl | rfl
    · refine wpOp_of rfl rfl (wp_called (args := #[.agg (encP id).toArray, .slice A n c]) hcD (by simp only [List.map_toArray, List.map_cons, List.map_nil]; rfl) (HD.out w3 B3.out) ?_)
      rintro e w_3 ⟨v_4, rfl, o_1, h_2⟩
      have o_1 := Lib.hid (own_mono' o_1 B3.out.size)
      obtain ⟨A1, c1, rfl, hc1, _⟩ := Sl.of_own o_1.out
      refine ⟨_, rfl, ext_trans B3.out h_2, ?_⟩
      simp only [Act.put, List.setIfInBounds_toArray, List.set_cons_zero, List.set_cons_succ]
      have B_5 := Lib.hid (ext_trans B3.out h_2)
      clear B3
      clear h_2
      refine wpAnyH_all (rs := [5, 7]) (by kernel_rfl) (by simp) ?_
      intro i hi
      simp only [List.mem_cons, List.not_mem_nil, or_false] at hi
      rcases hi with rfl | rfl
      · refine wpOp_of rfl rfl (wp_called (args := #[.slice A n c]) hcC (by simp only [List.map_toArray, List.map_cons, List.map_nil]; rfl) (HC.out w_3 B_5.out) ?_)
        rintro e w_8 ⟨v_9, rfl, o_6, h_7⟩
        have o_6 := Lib.hid (own_mono' o_6 B_5.out.size)
        obtain ⟨A2, c2, rfl, hc2, _⟩ := Sl.of_own o_6.out
        refine ⟨_, rfl, ext_trans B_5.out h_7, ?_⟩
        simp only [Act.put, List.setIfInBounds_toArray, List.set_cons_zero, List.set_cons_succ]
        have B_10 := Lib.hid (ext_trans B_5.out h_7)
        have F_11 := Lib.hid (own_ext o_1.out h_7)
        clear B_5 o_1
        clear h_7
        refine takeV (i := 6) rfl (by kernel_rfl) (by kernel_rfl) (by kernel_rfl) (fun _ _ _ h => h) rfl (fun w' _ => exBuild (by simp only [List.map_toArray, List.map_cons, List.map_nil]; rfl) (buildPat id A1 (depsV id l).length c1 A2 n c2 w')) B_10.out ?_
        simp only [Act.put, List.setIfInBounds_toArray, List.set_cons_zero, List.set_cons_succ]
        refine wpAnyH_all (rs := [7]) (by kernel_rfl) (by simp) ?_
        intro i hi
        simp only [List.mem_cons, List.not_mem_nil, or_false] at hi
        subst hi
        refine wpOp_of rfl rfl (wp_alloced (allocPat _) ?_)
        refine ⟨ext_trans B_10.out (below_new _ _), ?_⟩
        simp only [Act.put, List.setIfInBounds_toArray, List.set_cons_zero, List.set_cons_succ]
        have k_12 := Blk.new w_8 28 #[.int .u8 0, .int .u16 0, .slice none 0 0, .slice none 0 0]
        have h_13 := below_new w_8 (.cells #[.int .u8 0, .int .u16 0, .slice none 0 0, .slice none 0 0] 28)
        have gz_16 : w2.heap.size ≤ w_8.heap.size := B_10.out.size
        generalize (w_8.alloc (.cells #[.int .u8 0, .int .u16 0, .slice none 0 0, .slice none 0 0] 28)) = w_14 at *
        have k_12 := Lib.hid k_12
        have B_17 := Lib.hid (ext_trans B_10.out h_13)
        have F_18 := Lib.hid (own_ext F_11.out h_13)
        have F_19 := Lib.hid (own_ext o_6.out h_13)
        clear B_10 F_11 o_6
        clear h_13
        generalize w_8.heap.size = g at *
        refine wpAnyH_all (rs := [8]) (by kernel_rfl) (by simp) ?_
        intro i hi
        simp only [List.mem_cons, List.not_mem_nil, or_false] at hi
        subst hi
        refine wpOp_of rfl rfl (wp_stored (cs := (patC id A1 (depsV id l).length c1 A2 n c2).toArray) rfl rfl k_12.out infoPat rfl patC_one ?_)
        refine ⟨below_setRow B_17.out gz_16 _, ?_⟩
        have KK := Lib.hid (k_12.out.row (patC id A1 (depsV id l).length c1 A2 n c2).toArray)
        have DD := Lib.hid (own_rowFar (cs' := (patC id A1 (depsV id l).length c1 A2 n c2).toArray) F_18.out k_12.out (by decide))
        have CC := Lib.hid (own_rowFar (cs' := (patC id A1 (depsV id l).length c1 A2 n c2).toArray) F_19.out k_12.out (by decide))
        have BB := Lib.hid (below_setRow B_17.out gz_16 (patC id A1 (depsV id l).length c1 A2 n c2).toArray)
        generalize (w_14.setRow g (patC id A1 (depsV id l).length c1 A2 n c2).toArray) = w9 at *
        refine wpAnyH_done (by kernel_rfl) ?_ _
        go_wp2_with fail
        go_meet
        case rel => exact ⟨g, A1, c1, A2, c2, rfl, KK.out, DD.out, CC.out, BB.out⟩
      · refine wpOp_of rfl rfl (wp_alloced (allocPat _) ?_)
        refine ⟨ext_trans B_5.out (below_new _ _), ?_⟩
        simp only [Act.put, List.setIfInBounds_toArray, List.set_cons_zero, List.set_cons_succ]
        have k_20 := Blk.new w_3 28 #[.int .u8 0, .int .u16 0, .slice none 0 0, .slice none 0 0]
        have h_21 := below_new w_3 (.cells #[.int .u8 0, .int .u16 0, .slice none 0 0, .slice none 0 0] 28)
        have gz_24 : w2.heap.size ≤ w_3.heap.size := B_5.out.size
        generalize (w_3.alloc (.cells #[.int .u8 0, .int .u16 0, .slice none 0 0, .slice none 0 0] 28)) = w_22 at *
        have k_20 := Lib.hid k_20
        have B_25 := Lib.hid (ext_trans B_5.out h_21)
        have F_26 := Lib.hid (own_ext o_1.out h_21)
        clear B_5 o_1
        clear h_21
        generalize w_3.heap.size = g at *
        refine wpAnyH_all (rs := [5]) (by kernel_rfl) (by simp) ?_
        intro i hi
        simp only [List.mem_cons, List.not_mem_nil, or_false] at hi
        subst hi
        refine wpOp_of rfl rfl (wp_called (args := #[.slice A n c]) hcC (by simp only [List.map_toArray, List.map_cons, List.map_nil]; rfl) (HC.out w_22 B_25.out) ?_)
        rintro e w_29 ⟨v_30, rfl, o_27, h_28⟩
        have o_27 := Lib.hid (own_mono' o_27 B_25.out.size)
        obtain ⟨A2, c2, rfl, hc2, _⟩ := Sl.of_own o_27.out
        refine ⟨_, rfl, ext_trans B_25.out h_28, ?_⟩
        simp only [Act.put, List.setIfInBounds_toArray, List.set_cons_zero, List.set_cons_succ]
        have B_31 := Lib.hid (ext_trans B_25.out h_28)
        have F_32 := Lib.hid (own_ext F_26.out h_28)
        have F_33 := Lib.hid (k_20.out.ext h_28)
        clear B_25 F_26 k_20
        clear h_28
        refine takeV (i := 6) rfl (by kernel_rfl) (by kernel_rfl) (by kernel_rfl) (fun _ _ _ h => h) rfl (fun w' _ => exBuild (by simp only [List.map_toArray, List.map_cons, List.map_nil]; rfl) (buildPat id A1 (depsV id l).length c1 A2 n c2 w')) B_31.out ?_
        simp only [Act.put, List.setIfInBounds_toArray, List.set_cons_zero, List.set_cons_succ]
        refine wpAnyH_all (rs := [8]) (by kernel_rfl) (by simp) ?_
        intro i hi
        simp only [List.mem_cons, List.not_mem_nil, or_false] at hi
        subst hi
        refine wpOp_of rfl rfl (wp_stored (cs := (patC id A1 (depsV id l).length c1 A2 n c2).toArray) rfl rfl F_33.out infoPat rfl patC_one ?_)
        refine ⟨below_setRow B_31.out gz_24 _, ?_⟩
        have KK := Lib.hid (F_33.out.row (patC id A1 (depsV id l).length c1 A2 n c2).toArray)
        have DD := Lib.hid (own_rowFar (cs' := (patC id A1 (depsV id l).length c1 A2 n c2).toArray) F_32.out F_33.out (by decide))
        have CC := Lib.hid (own_rowFar (cs' := (patC id A1 (depsV id l).length c1 A2 n c2).toArray) o_27.out F_33.out (by decide))
        have BB := Lib.hid (below_setRow B_31.out gz_24 (patC id A1 (depsV id l).length c1 A2 n c2).toArray)
        generalize (w_29.setRow g (patC id A1 (depsV id l).length c1 A2 n c2).toArray) = w9 at *
        refine wpAnyH_done (by kernel_rfl) ?_ _
        go_wp2_with fail
        go_meet
        case rel => exact ⟨g, A1, c1, A2, c2, rfl, KK.out, DD.out, CC.out, BB.out⟩
    · refine wpOp_of rfl rfl (wp_alloced (allocPat _) ?_)
      refine ⟨ext_trans B3.out (below_new _ _), ?_⟩
      simp only [Act.put, List.setIfInBounds_toArray, List.set_cons_zero, List.set_cons_succ]
      have k_34 := Blk.new w3 28 #[.int .u8 0, .int .u16 0, .slice none 0 0, .slice none 0 0]
      have h_35 := below_new w3 (.cells #[.int .u8 0, .int .u16 0, .slice none 0 0, .slice none 0 0] 28)
      have gz_38 : w2.heap.size ≤ w3.heap.size := B3.out.size
      generalize (w3.alloc (.cells #[.int .u8 0, .int .u16 0, .slice none 0 0, .slice none 0 0] 28)) = w_36 at *
      have k_34 := Lib.hid k_34
      have B_39 := Lib.hid (ext_trans B3.out h_35)
      clear B3
      clear h_35
      generalize w3.heap.size = g at *
      refine wpAnyH_all (rs := [3]) (by kernel_rfl) (by simp) ?_
      intro i hi
      simp only [List.mem_cons, List.not_mem_nil, or_false] at hi
      subst hi
      refine wpOp_of rfl rfl (wp_called (args := #[.agg (encP id).toArray, .slice A n c]) hcD (by simp only [List.map_toArray, List.map_cons, List.map_nil]; rfl) (HD.out w_36 B_39.out) ?_)
      rintro e w_42 ⟨v_43, rfl, o_40, h_41⟩
      have o_40 := Lib.hid (own_mono' o_40 B_39.out.size)
      obtain ⟨A1, c1, rfl, hc1, _⟩ := Sl.of_own o_40.out
      refine ⟨_, rfl, ext_trans B_39.out h_41, ?_⟩
      simp only [Act.put, List.setIfInBounds_toArray, List.set_cons_zero, List.set_cons_succ]
      have B_44 := Lib.hid (ext_trans B_39.out h_41)
      have F_45 := Lib.hid (k_34.out.ext h_41)
      clear B_39 k_34
      clear h_41
      refine wpAnyH_all (rs := [5]) (by kernel_rfl) (by simp) ?_
      intro i hi
      simp only [List.mem_cons, List.not_mem_nil, or_false] at hi
      subst hi
      refine wpOp_of rfl rfl (wp_called (args := #[.slice A n c]) hcC (by simp only [List.map_toArray, List.map_cons, List.map_nil]; rfl) (HC.out w_42 B_44.out) ?_)
      rintro e w_48 ⟨v_49, rfl, o_46, h_47⟩
      have o_46 := Lib.hid (own_mono' o_46 B_44.out.size)
      obtain ⟨A2, c2, rfl, hc2, _⟩ := Sl.of_own o_46.out
      refine ⟨_, rfl, ext_trans B_44.out h_47, ?_⟩
      simp only [Act.put, List.setIfInBounds_toArray, List.set_cons_zero, List.set_cons_succ]
      have B_50 := Lib.hid (ext_trans B_44.out h_47)
      have F_51 := Lib.hid (F_45.out.ext h_47)
      have F_52 := Lib.hid (own_ext o_40.out h_47)
      clear B_44 F_45 o_40
      clear h_47
      refine takeV (i := 6) rfl (by kernel_rfl) (by kernel_rfl) (by kernel_rfl) (fun _ _ _ h => h) rfl (fun w' _ => exBuild (by simp only [List.map_toArray, List.map_cons, List.map_nil]; rfl) (buildPat id A1 (depsV id l).length c1 A2 n c2 w')) B_50.out ?_
      simp only [Act.put, List.setIfInBounds_toArray, List.set_cons_zero, List.set_cons_succ]
      refine wpAnyH_all (rs := [8]) (by kernel_rfl) (by simp) ?_
      intro i hi
      simp only [List.mem_cons, List.not_mem_nil, or_false] at hi
      subst hi
      refine wpOp_of rfl rfl (wp_stored (cs := (patC id A1 (depsV id l).length c1 A2 n c2).toArray) rfl rfl F_51.out infoPat rfl patC_one ?_)
      refine ⟨below_setRow B_50.out gz_38 _, ?_⟩
      have KK := Lib.hid (F_51.out.row (patC id A1 (depsV id l).length c1 A2 n c2).toArray)
      have DD := Lib.hid (own_rowFar (cs' := (patC id A1 (depsV id l).length c1 A2 n c2).toArray) F_52.out F_51.out (by decide))
      have CC := Lib.hid (own_rowFar (cs' := (patC id A1 (depsV id l).length c1 A2 n c2).toArray) o_46.out F_51.out (by decide))
      have BB := Lib.hid (below_setRow B_50.out gz_38 (patC id A1 (depsV id l).length c1 A2 n c2).toArray)
      generalize (w_48.setRow g (patC id A1 (depsV id l).length c1 A2 n c2).toArray) = w9 at *
      refine wpAnyH_done (by kernel_rfl) ?_ _
      go_wp2_with fail
      go_meet
      case rel => exact ⟨g, A1, c1, A2, c2, rfl, KK.out, DD.out, CC.out, BB.out⟩
  case rest =>
    obtain ⟨g, A1, c1, A2, c2, rfl, kg, od, oc, hbx⟩ := hcut
    obtain ⟨wx, rfl⟩ : ∃ wx, wx = wc := ⟨_, rfl⟩
    have KG := Lib.hid kg
    have OD := Lib.hid od
    have OC := Lib.hid oc
    have B3 := Lib.hid (B0.out.trans (hbx.mono B0.out.size))
    have hw20 : Hid (w.heap.size ≤ w2.heap.size) := B0.out.size
    have PA : Hid (PatAt wx (patC id A1 (depsV id l).length c1 A2 n c2) (id, depsV id l, l)) := by
      obtain ⟨A3, c3, he, _, P3⟩ := PidsAt.of_own OD.out rfl
      injection he with e1 e2 e3
      subst e1 e3
      obtain ⟨A4, c4, he, _, P4⟩ := OpsAt.of_own OC.out L2.out.len L2.out.ok
      injection he with e1 e2 e3
      subst e1 e3
      exact pat_at P3 P4 hn
    have HG := Lib.hid (good18_any (id, depsV id l, l) wx _ PA.out)
    have KR := Lib.hid (K2.out.ext hbx)
    have hgr : Hid (w.heap.size ≤ w.heap.size + 1) := Nat.le_succ _
    clear kg od hbx B0 K1 K2 HD hcD HC hcC
    generalize w.heap.size + 1 = gr at *
    cases hp : patB (id, depsV id l, l)
    · rw [hp] at HG
      have HM : Hid (makeV18 id l = zeroPat ∧ makeN18 id l = 1) := ⟨by unfold makeV18; simp [hp], by unfold makeN18; simp [hp]⟩
      clear hp
      go_wp2_with (refine wpList_load_row rfl 28 _ (by rfl) g (by rfl) _ _ _ _ KG.out underPat rfl infoPat ?_)
      refine HG.out.mono ?_
      rintro e w4 ⟨rfl, b4⟩
      have KG := Lib.hid (KG.out.ext b4)
      have KR := Lib.hid (KR.out.ext b4)
      have OD := Lib.hid (own_ext OD.out b4)
      have OC := Lib.hid (own_ext OC.out b4)
      have B4 := Lib.hid (B3.out.trans (b4.mono B3.out.size))
      clear b4 HG B3 PA
      have KZ := Lib.hid (KR.out.row #[.int .u8 0, .int .u16 0, .slice none 0 0, .slice none 0 0])
      have OD := Lib.hid (own_rowFar (cs' := #[.int .u8 0, .int .u16 0, .slice none 0 0, .slice none 0 0]) OD.out KR.out (by decide))
      have OC := Lib.hid (own_rowFar (cs' := #[.int .u8 0, .int .u16 0, .slice none 0 0, .slice none 0 0]) OC.out KR.out (by decide))
      have B5 := Lib.hid (below_setRow B4.out hgr.out #[.int .u8 0, .int .u16 0, .slice none 0 0, .slice none 0 0])
      have HI : Hid ((Tryd.prog.info? 28).map (·.size) = some (#[.int .u8 0, .int .u16 0, .slice none 0 0, .slice none 0 0] : Array Value).size) := infoPat
      go_wp2_with (first
        | (refine wpList_load_row rfl 28 _ (by rfl) g (by rfl) _ _ _ _ KG.out underPat rfl infoPat ?_)
        | (refine wpList_built (buildZero _) (by rfl) ?_)
        | (refine wpList_store_row rfl 28 _ _ (by rfl) gr #[.int .u8 0, .int .u16 0, .slice none 0 0, .slice none 0 0] (by rfl) (by rfl) _ _ KR.out HI.out rfl zeroC_one ?_))
      generalize (w4.setRow gr #[.int .u8 0, .int .u16 0, .slice none 0 0, .slice none 0 0]) = w5 at *
      have z0 := KZ.out.cell 0
      have z1 := KZ.out.cell 1
      have z2 := KZ.out.cell 2
      have z3 := KZ.out.cell 3
      simp at z0 z1 z2 z3
      refine bodyPost_ret (v := .tuple #[.agg (#[.int .u8 0, .int .u16 0, .slice none 0 0, .slice none 0 0] : Array Value), .int .i64 1]) ?_ rfl ?_
      · simp [results, Tryd.results34, go_sem, z0, z1, z2, z3]
      rw [HM.out.1, HM.out.2]
      refine ⟨_, rfl, ?_, B5.out⟩
      exact zero_in _ _
    · rw [hp] at HG
      have HM : Hid (makeV18 id l = (id, depsV id l, l) ∧ makeN18 id l = 0) := ⟨by unfold makeV18; simp [hp], by unfold makeN18; simp [hp]⟩
      clear hp
      go_wp2_with (refine wpList_load_row rfl 28 _ (by rfl) g (by rfl) _ _ _ _ KG.out underPat rfl infoPat ?_)
      refine HG.out.mono ?_
      rintro e w4 ⟨rfl, b4⟩
      have KG := Lib.hid (KG.out.ext b4)
      have KR := Lib.hid (KR.out.ext b4)
      have OD := Lib.hid (own_ext OD.out b4)
      have OC := Lib.hid (own_ext OC.out b4)
      have B4 := Lib.hid (B3.out.trans (b4.mono B3.out.size))
      clear b4 HG B3 PA
      have KZ := Lib.hid (KR.out.row (patC id A1 (depsV id l).length c1 A2 n c2).toArray)
      have OD := Lib.hid (own_rowFar (cs' := (patC id A1 (depsV id l).length c1 A2 n c2).toArray) OD.out KR.out (by decide))
      have OC := Lib.hid (own_rowFar (cs' := (patC id A1 (depsV id l).length c1 A2 n c2).toArray) OC.out KR.out (by decide))
      have B5 := Lib.hid (below_setRow B4.out hgr.out (patC id A1 (depsV id l).length c1 A2 n c2).toArray)
      have HI : Hid ((Tryd.prog.info? 28).map (·.size) = some ((patC id A1 (depsV id l).length c1 A2 n c2).toArray).size) := infoPat
      go_wp2_with (first
        | (refine wpList_load_row rfl 28 _ (by rfl) g (by rfl) _ _ _ _ KG.out underPat rfl infoPat ?_)
        | (refine wpList_built (buildZero _) (by rfl) ?_)
        | (refine wpList_store_row rfl 28 _ _ (by rfl) gr (patC id A1 (depsV id l).length c1 A2 n c2).toArray (by rfl) (by rfl) _ _ KR.out HI.out rfl patC_one ?_))
      generalize (w4.setRow gr (patC id A1 (depsV id l).length c1 A2 n c2).toArray) = w5 at *
      have z0 := KZ.out.cell 0
      have z1 := KZ.out.cell 1
      have z2 := KZ.out.cell 2
      have z3 := KZ.out.cell 3
      simp [patC] at z0 z1 z2 z3
      refine bodyPost_ret (v := .tuple #[.agg ((patC id A1 (depsV id l).length c1 A2 n c2).toArray : Array Value), .int .i64 0]) ?_ rfl ?_
      · simp [results, Tryd.results34, go_sem, z0, z1, z2, z3, patC]
      rw [HM.out.1, HM.out.2]
      refine ⟨_, rfl, ?_, B5.out⟩
      have e := L2.out.len
      subst e
      have hd := depsV_le id l
      exact (PatIn.of_copy (p := (id, depsV id l, l)) OD.out OC.out L2.out.ok (by unfold maxLen; show (depsV id l).length ≤ _; omega) (by unfold maxLen; show l.length ≤ _; omega)).mono fun k e => Nat.le_trans hw20.out e.1
set_option maxRecDepth 100000 in
set_option maxHeartbeats 8000000 in
theorem decode19_far (l : List UInt8) (w : World) (A : Option Addr) (n c : Nat) (h : BytesAt w A n c l) : Calls Tryd.prog 18 #[.slice A n c] w (MadeFar w (decP l).1 ((decP l).2 : Int)) := by
  have KR0 : Hid (Blk (w.alloc (.cells #[.int .u8 0, .int .u16 0, .slice none 0 0, .slice none 0 0] 28)) w.heap.size 28 #[.int .u8 0, .int .u16 0, .slice none 0 0, .slice none 0 0]) := Blk.new _ _ _
  have B0 : Hid (Below w.heap.size w (w.alloc (.cells #[.int .u8 0, .int .u16 0, .slice none 0 0, .slice none 0 0] 28))) := below_new _ _
  have H := Lib.hid (h.ext B0.out)
  clear h
  go_enter Tryd.func18, Tryd.ntmps18
  go_upto_region 1 with (refine wpList_alloced (allocPat _) ?_)
  generalize (w.alloc (.cells #[.int .u8 0, .int .u16 0, .slice none 0 0, .slice none 0 0] 28)) = w2 at *
  obtain ⟨gr, hgr⟩ : ∃ gr, gr = w.heap.size := ⟨_, rfl⟩
  rw [← hgr] at KR0 ⊢
  replace hgr := Lib.hid hgr
  go_wp2_with fail
  refine (rdOpen_any l _ _ _ _ H.out).mono ?_
  rintro e w3 ⟨g, rfl, R, b3, hg⟩
  have R3 := Lib.hid R
  have KR3 := Lib.hid (KR0.out.ext b3)
  have B3 := Lib.hid (B0.out.trans (b3.mono B0.out.size))
  have hrg : Hid (gr < g) := by rw [Hid, hg]; exact KR0.out.lt
  obtain ⟨B, hBB⟩ : ∃ B, B = w2.heap.size := ⟨_, rfl⟩
  rw [← hBB] at R3
  clear R b3 hg H KR0 B0 hBB
  go_wp2_with fail
  refine (rdByte_any R3.out 255).mono ?_
  rintro e w4 ⟨rfl, kp, R⟩
  have hal := rByte_le 255 l 0
  have hdec : Hid (headR2 l 0 = bindR (rNum 65535) (fun s => bindR (rNum 200) fun n => bindR (opsRd n) fun os => pureR (idR (rByte 255 l 0).1 s, os)) (rByte 255 l 0).2.1 (rByte 255 l 0).2.2) := rfl
  obtain ⟨a, l1, e1, hB1⟩ : ∃ x y z, rByte 255 l 0 = (x, y, z) := ⟨_, _, _, rfl⟩
  rw [hB1] at hal R hdec ⊢
  dsimp only at hal R hdec ⊢
  clear hB1
  have R4 := Lib.hid R
  have hgw : Hid (gr = w.heap.size ∧ w.heap.size ≤ g) := ⟨hgr.out, by have := hrg.out; have := hgr.out; omega⟩
  have B4 : Hid (Below w.heap.size w w4) := B3.out.trans (kp.below (fun k e => by rw [e]; exact hgw.out.2) B3.out.size)
  have KR4 := Lib.hid (KR3.out.keep (kp.block gr KR3.out.lt (by have := hrg.out; omega)))
  clear kp R R3 KR3 B3
  have KI : Hid (Blk (w4.alloc (.cells #[.int .u8 (a : Int), .int .u16 0] 24)) w4.heap.size 24 #[.int .u8 (a : Int), .int .u16 0]) := Blk.new _ _ _
  have BN : Hid (Below w4.heap.size w4 (w4.alloc (.cells #[.int .u8 (a : Int), .int .u16 0] 24))) := below_new _ _
  go_upto_region 3 with fail
  generalize (w4.alloc (.cells #[.int .u8 (a : Int), .int .u16 0] 24)) = w5 at *
  have R5 := Lib.hid (R4.out.ext BN.out)
  have KR5 := Lib.hid (KR4.out.ext BN.out)
  have B5 := Lib.hid (B4.out.trans (BN.out.mono B4.out.size))
  have hig : Hid (g < w4.heap.size) := by obtain ⟨_, _, h1, _⟩ := R4.out.ex; exact h1.lt
  clear BN R4 KR4 B4
  obtain ⟨gi, hgi⟩ : ∃ gi, gi = w4.heap.size := ⟨_, rfl⟩
  rw [← hgi] at KI hig ⊢
  clear hgi
  go_wp2_with fail
  refine (rdNum_any R5.out 65535).mono ?_
  rintro e w6 ⟨rfl, kp, R⟩
  have hsl := rNum_le 65535 l1 e1
  obtain ⟨s, l2, e2, hB2⟩ : ∃ x y z, rNum 65535 l1 e1 = (x, y, z) := ⟨_, _, _, rfl⟩
  have hdec2 : Hid (headR2 l 0 = bindR (rNum 200) (fun n => bindR (opsRd n) fun os => pureR (idR a s, os)) l2 e2) := by
    rw [Hid, hdec.out]
    unfold bindR
    rw [hB2]
  rw [hB2] at hsl R ⊢
  dsimp only at hsl R ⊢
  clear hB2 hdec
  have R6 := Lib.hid R
  have B6 : Hid (Below w.heap.size w w6) := B5.out.trans (kp.below (fun k e => by rw [e]; exact hgw.out.2) B5.out.size)
  have KR6 := Lib.hid (KR5.out.keep (kp.block gr KR5.out.lt (by have := hrg.out; omega)))
  have KI6 := Lib.hid (KI.out.keep (kp.block gi KI.out.lt (by have := hig.out; omega)))
  clear kp R R5 KR5 B5 KI
  have y1 : w6.cell? ⟨gi, 1, none⟩ = some (.int .u16 0) := KI6.out.cell 1
  have f1 : w6.frozen? ⟨gi, 1, none⟩ = false := KI6.out.fr 1
  have CV := Lib.hid (fun u => low16_run hsl u)
  go_upto_region 4 with (refine wpList_convB rfl (CV.out _) ?_)
  have kp2 : Kept (fun k => k = gi) w6 (w6.setCell ⟨gi, 1, none⟩ (.int .u16 (s : Int))) := (Kept.refl (fun k => k = gi) w6).setCell (p := ⟨gi, 1, none⟩) (.inl rfl) _
  have KI7 : Hid (Blk (w6.setCell ⟨gi, 1, none⟩ (.int .u16 (s : Int))) gi 24 (encP (idR a s)).toArray) := by
    have h1 := KI6.out.set_ 1 (.int .u16 (s : Int))
    rw [Hid, idR_lit (by omega) (by omega)]
    exact h1
  have R7 : Hid (RdAt (w6.setCell ⟨gi, 1, none⟩ (.int .u16 (s : Int))) B g l2 e2) := R6.out.keepB kp2 (by have := hig.out; omega) (by have := R6.out.ge; have := hig.out; omega)
  have KR7 := Lib.hid (KR6.out.keep (kp2.block gr KR6.out.lt (by have := hrg.out; have := hig.out; omega)))
  have B7 : Hid (Below w.heap.size w (w6.setCell ⟨gi, 1, none⟩ (.int .u16 (s : Int)))) := B6.out.trans (kp2.below (fun k e => by have := hgw.out.2; have := hig.out; omega) B6.out.size)
  clear kp2 y1 f1 CV KI6 R6 KR6 B6
  generalize (w6.setCell ⟨gi, 1, none⟩ (.int .u16 (s : Int))) = w7 at *
  go_wp2_with fail
  refine (rdNum_any R7.out 200).mono ?_
  rintro e w8 ⟨rfl, kp, R⟩
  have hnl := rNum_le 200 l2 e2
  obtain ⟨m0, l3, e3, hB3⟩ : ∃ x y z, rNum 200 l2 e2 = (x, y, z) := ⟨_, _, _, rfl⟩
  have hdec3 : Hid (headR2 l 0 = ((idR a s, (opsRd m0 l3 e3).1), (opsRd m0 l3 e3).2)) := by
    rw [Hid, hdec2.out]
    unfold bindR
    rw [hB3]
    rfl
  rw [hB3] at hnl R ⊢
  dsimp only at hnl R ⊢
  clear hB3 hdec2
  have R8 := Lib.hid R
  have B8 : Hid (Below w.heap.size w w8) := B7.out.trans (kp.below (fun k e => by rw [e]; exact hgw.out.2) B7.out.size)
  have KR8 := Lib.hid (KR7.out.keep (kp.block gr KR7.out.lt (by have := hrg.out; omega)))
  have KI8 := Lib.hid (KI7.out.keep (kp.block gi KI7.out.lt (by have := hig.out; omega)))
  clear kp R R7 KR7 B7 KI7
  have hgb : Hid (gi < w8.heap.size ∧ g < w8.heap.size ∧ gr < w8.heap.size) := ⟨KI8.out.lt, by have := hig.out; have := KI8.out.lt; omega, KR8.out.lt⟩
  obtain ⟨gb, hgbe⟩ : ∃ gb, gb = w8.heap.size := ⟨_, rfl⟩
  have hgs : Hid (gb ≤ w8.heap.size) := by rw [Hid, hgbe]; omega
  rw [← hgbe] at hgb
  clear hgbe
  go_wp2_with fail
  go_loopw [7, 6] (fun v sl wr => ∃ (m : Nat) (os : List OpV) (l' : List UInt8) (e' : Nat), v = .int .u64 (m : Int) ∧ m + os.length ≤ 200 ∧ Hid (opsRd m0 l3 e3 = (os ++ (opsRd m l' e').1, (opsRd m l' e').2)) ∧ Hid (wr.ownsRow gb 45 8 sl os.length (os.flatMap encO)) ∧ Hid (∀ o ∈ os, OpV.ok o) ∧ Hid (RdAt wr B g l' e') ∧ Hid (Blk wr gr 28 #[.int .u8 0, .int .u16 0, .slice none 0 0, .slice none 0 0]) ∧ Hid (Blk wr gi 24 (encP (idR a s)).toArray) ∧ Hid (Below w.heap.size w wr) ∧ Hid (gb ≤ wr.heap.size)) (fun v _ _ => (intOf v).toNat)
  case atStart => exact ⟨m0, [], l3, e3, rfl, by simpa using hnl, by rw [Hid, List.nil_append], World.ownsRow_nil _ _ _ _, by simp [Hid], R8.out, KR8.out, KI8.out, B8.out, hgs.out⟩
  case round =>
    clear R8 KR8 KI8 B8 hgs
    obtain ⟨m, os, l', e', rfl, hml, HD, O, OK, RD, KR, KI, BW, hgs⟩ := hrel
    have hm0 : (0 : Int) ≤ (m : Int) := by omega
    by_cases hgo : 0 < m ∧ e' = 0
    · obtain ⟨hmp, he⟩ := hgo
      have hmi : (0 : Int) < (m : Int) := by omega
      have hm1 : (1 : Int) ≤ (m : Int) := by omega
      have hmb : (m : Int) ≤ 200 := by omega
      have hz : ((e' : Int) == 0) = true := by rw [he]; rfl
      have HE := Lib.hid (rdErr_any RD.out)
      obtain ⟨m', rfl⟩ : ∃ m', m = m' + 1 := ⟨m - 1, by omega⟩
      have hm2 : ((m' + 1 : Nat) : Int) - 1 = (m' : Int) := by omega
      have HD2 : Hid (opsRd m0 l3 e3 = ((os ++ [(oneRd l' e').1]) ++ (opsRd m' (oneRd l' e').2.1 (oneRd l' e').2.2).1, (opsRd m' (oneRd l' e').2.1 (oneRd l' e').2.2).2)) := by
        rw [Hid, HD.out, he, opsRd_go, List.append_assoc]
        rfl
      have hok := one_ok l' e'
      have HO := Lib.hid (one19_any RD.out)
      obtain ⟨A5, c5, rfl, _, _⟩ := Sl.of_own O.out
      clear HD he
      go_wp2_with fail
      refine HE.out.mono ?_
      rintro e _ ⟨rfl, rfl⟩
      go_wp2_with fail
      refine HO.out.mono ?_
      rintro e w9 ⟨rfl, kp, R⟩
      generalize (oneRd l' e').1 = o at *
      generalize (oneRd l' e').2.1 = l4 at *
      generalize (oneRd l' e').2.2 = e4 at *
      have KR9 := Lib.hid (KR.out.keep (kp.block gr KR.out.lt (by have := hrg.out; omega)))
      have KI9 := Lib.hid (KI.out.keep (kp.block gi KI.out.lt (by have := hig.out; omega)))
      have B9 : Hid (Below w.heap.size w w9) := BW.out.trans (kp.below (fun k e => by rw [e]; exact hgw.out.2) BW.out.size)
      have O9 := Lib.hid (own_keepF O.out fun k e => kp.block k (O.out.lt k e).2 (by have := (O.out.lt k e).1; have := hgb.out.2.1; omega))
      have R9 := Lib.hid R
      have hg9 : gb ≤ w9.heap.size := Nat.le_trans hgs.out kp.size
      clear kp R KR KI BW O RD HE HO
      go_wp2_with (first
        | (refine wpList_lit1 opSl (encO_len o) (by omega) (by rfl) ?_)
        | (at_builtin; refine wpList_push opSl O9.out (encO o) rfl (encO_one o) hg9 (by omega) (by unfold maxLen; omega) (by rfl) (by rfl) (by rfl) ?_; intro v1 w10 own1 bel1))
      have KR10 := Lib.hid (KR9.out.below bel1 hgb.out.2.2)
      have KI10 := Lib.hid (KI9.out.below bel1 hgb.out.1)
      have R10 := Lib.hid (R9.out.below bel1 hgb.out.2.1)
      have B10 : Hid (Below w.heap.size w w10) := B9.out.trans (bel1.mono (by have := hgb.out.2.2; have := hgw.out.1; omega))
      have OK10 : Hid (∀ x ∈ os ++ [o], OpV.ok x) := fun x hx => by
        rcases List.mem_append.1 hx with hx | hx
        · exact OK.out x hx
        · rw [List.mem_singleton.1 hx]; unfold OpV.ok maxLen; omega
      have O10 : Hid (w10.ownsRow gb 45 8 v1 (os ++ [o]).length ((os ++ [o]).flatMap encO)) := by
        rw [Hid, List.flatMap_append, List.length_append]
        simpa using own1
      have hgs10 : Hid (gb ≤ w10.heap.size) := Nat.le_trans hg9 bel1.size
      clear own1 bel1 KR9 KI9 R9 B9 O9 OK
      go_roundw
      case rel => exact ⟨m', os ++ [o], l4, e4, by go_num, by simp; omega, HD2.out, O10.out, OK10.out, R10.out, KR10.out, KI10.out, B10.out, hgs10.out⟩
      case measure => simp [intOf]
    · have HDF : Hid (headR2 l 0 = ((idR a s, os), l', e')) := by
        rw [Hid, hdec3.out, HD.out, opsRd_stop (by omega), List.append_nil]
      have hdP : Hid (decP l = if rEnd l' e' ≠ 0 then (zeroPat, rEnd l' e') else if makeN18 (idR a s) os ≠ 0 then (zeroPat, 4) else (makeV18 (idR a s) os, 0)) := by
        rw [Hid]
        unfold decP
        rw [HDF.out]
      clear HDF HD hdec3
      obtain ⟨A5, c5, rfl, _, _⟩ := Sl.of_own O.out
      have hol : os.length ≤ 200 := by omega
      have OA := Lib.hid (own_opsAt O.out rfl OK.out)
      have HEr := Lib.hid (rdErr_any RD.out)
      have HEn := Lib.hid (rdEnd_any RD.out)
      have hstop := Lib.hid hgo
      obtain ⟨re, hre⟩ : ∃ re, re = rEnd l' e' := ⟨_, rfl⟩
      rw [← hre] at HEn hdP
      clear hre O OK RD hgs hgo
      by_cases hmz : m = 0
      · have hmi : ¬ (0 : Int) < (m : Int) := by omega
        go_wp2_with fail
        refine HEn.out.mono ?_
        rintro e _ ⟨rfl, rfl⟩
        by_cases h1 : re = 0
        · have z0 : ((re : Int) != 0) = false := by rw [h1]; rfl
          have hdP2 : Hid (decP l = if makeN18 (idR a s) os ≠ 0 then (zeroPat, 4) else (makeV18 (idR a s) os, 0)) := by rw [Hid, hdP.out, if_neg (by simpa using h1)]
          replace h1 := Lib.hid h1
          clear hdP
          go_wp2_with (refine wpList_load_row rfl 24 _ (by rfl) gi (by rfl) _ _ _ _ KI.out underPid rfl infoPid ?_)
          refine (make18_far (idR a s) os _ _ _ _ (by omega) OA.out).mono ?_
          rintro e w20 ⟨cs, rfl, pa, b20⟩
          obtain ⟨q, hq⟩ : ∃ q, q = makeV18 (idR a s) os := ⟨_, rfl⟩
          rw [← hq] at pa hdP2
          replace hq := Lib.hid hq
          have pa2 := pa
          obtain ⟨⟨A3, c3, A4, c4, rfl, _⟩, _, _⟩ := pa2
          have hgrw : Hid (gr < wr.heap.size) := KR.out.lt
          have hwwr : Hid (w.heap.size ≤ wr.heap.size) := BW.out.size
          have KR20 := Lib.hid (KR.out.ext b20)
          have B20 := Lib.hid (BW.out.trans (b20.mono BW.out.size))
          have PA := Lib.hid pa
          clear pa b20 KI KR BW OA
          have KZ : Hid (Blk (w20.alloc (.cells #[.int .u8 0, .int .u16 0, .slice none 0 0, .slice none 0 0] 28)) w20.heap.size 28 #[.int .u8 0, .int .u16 0, .slice none 0 0, .slice none 0 0]) := Blk.new _ _ _
          have KQ : Hid (Blk ((w20.alloc (.cells #[.int .u8 0, .int .u16 0, .slice none 0 0, .slice none 0 0] 28)).setRow w20.heap.size (patC q.1 A3 q.2.1.length c3 A4 q.2.2.length c4).toArray) w20.heap.size 28 (patC q.1 A3 q.2.1.length c3 A4 q.2.2.length c4).toArray) := KZ.out.row _
          have BN : Hid (Below w20.heap.size w20 ((w20.alloc (.cells #[.int .u8 0, .int .u16 0, .slice none 0 0, .slice none 0 0] 28)).setRow w20.heap.size (patC q.1 A3 q.2.1.length c3 A4 q.2.2.length c4).toArray)) := below_setRow (below_new w20 _) (Nat.le_refl _) _
          go_upto_region 13 with (first
            | (refine wpList_alloced (allocPat _) ?_)
            | (refine wpList_store_row rfl 28 _ _ (by rfl) w20.heap.size (patC q.1 A3 q.2.1.length c3 A4 q.2.2.length c4).toArray (by rfl) (by rfl) _ _ KZ.out infoPat rfl patC_one ?_))
          generalize ((w20.alloc (.cells #[.int .u8 0, .int .u16 0, .slice none 0 0, .slice none 0 0] 28)).setRow w20.heap.size (patC q.1 A3 q.2.1.length c3 A4 q.2.2.length c4).toArray) = w21 at *
          have KR21 := Lib.hid (KR20.out.ext BN.out)
          have B21 := Lib.hid (B20.out.trans (BN.out.mono B20.out.size))
          have PA21 := Lib.hid (PA.out.ext BN.out)
          clear KZ BN KR20 B20 PA
          generalize w20.heap.size = gq at *
          by_cases hmk : patB (idR a s, depsV (idR a s) os, os) = true
          · have hN : makeN18 (idR a s) os = 0 := by unfold makeN18; rw [if_pos hmk]
            have hdP3 : Hid (decP l = (q, 0)) := by rw [Hid, hdP2.out, if_neg (by simpa using hN)]
            rw [hN]
            clear hdP2 hN hq hmk
            have kp3 : Kept (fun k => k = gr) w21 (w21.setRow gr (patC q.1 A3 q.2.1.length c3 A4 q.2.2.length c4).toArray) := kept_row (fun k => k = gr) w21 rfl _
            go_wp2_with (first
              | (refine wpList_load_row rfl 28 _ (by rfl) gq (by rfl) _ _ _ _ KQ.out underPat rfl infoPat ?_)
              | (refine wpList_store_row rfl 28 _ _ (by rfl) gr (patC q.1 A3 q.2.1.length c3 A4 q.2.2.length c4).toArray (by rfl) (by rfl) _ _ KR21.out infoPat rfl patC_one ?_))
            refine bodyPost_ret (results_row_tmp rfl _ _ gr _ (patC q.1 A3 q.2.1.length c3 A4 q.2.2.length c4).toArray _ rfl (KR21.out.row _) underPat rfl infoPat) rfl ?_
            rw [hdP3.out]
            exact ⟨_, rfl, (PA21.out.stay (kp3.stay fun k _ h1 h2 => by have h1 : wr.heap.size ≤ k := h1; have h2 : k = gr := h2; have := hgrw.out; omega)).mono (fun k h => Nat.le_trans hwwr.out h), B21.out.trans (kp3.below (fun k e => by rw [e]; exact Nat.le_of_eq hgw.out.1.symm) B21.out.size)⟩
          · have hN : makeN18 (idR a s) os = 1 := by unfold makeN18; rw [if_neg hmk]
            have hdP3 : Hid (decP l = (zeroPat, 4)) := by rw [Hid, hdP2.out, if_pos (by rw [hN]; decide)]
            rw [hN]
            clear hdP2 hN hq hmk
            have kp3 : Kept (fun k => k = gr) w21 (w21.setRow gr #[.int .u8 0, .int .u16 0, .slice none 0 0, .slice none 0 0]) := kept_row (fun k => k = gr) w21 rfl _
            go_wp2_with (first
              | (refine wpList_built (buildZero _) (by rfl) ?_)
              | (refine wpList_store_row rfl 28 _ _ (by rfl) gr #[.int .u8 0, .int .u16 0, .slice none 0 0, .slice none 0 0] (by rfl) (by rfl) _ _ KR21.out infoPat rfl zeroC_one ?_))
            refine bodyPost_ret (results_row_tmp rfl _ _ gr _ #[.int .u8 0, .int .u16 0, .slice none 0 0, .slice none 0 0] _ rfl (KR21.out.row _) underPat rfl infoPat) rfl ?_
            rw [hdP3.out]
            exact ⟨_, rfl, zero_in _ _, B21.out.trans (kp3.below (fun k e => by rw [e]; exact Nat.le_of_eq hgw.out.1.symm) B21.out.size)⟩
        · have z0 : ((re : Int) != 0) = true := by rw [bne_iff_ne]; omega
          have hdP3 : Hid (decP l = (zeroPat, re)) := by rw [Hid, hdP.out, if_pos h1]
          clear hdP
          have kp3 : Kept (fun k => k = gr) wr (wr.setRow gr #[.int .u8 0, .int .u16 0, .slice none 0 0, .slice none 0 0]) := kept_row (fun k => k = gr) wr rfl _
          go_wp2_with (first
            | (refine wpList_built (buildZero _) (by rfl) ?_)
            | (refine wpList_store_row rfl 28 _ _ (by rfl) gr #[.int .u8 0, .int .u16 0, .slice none 0 0, .slice none 0 0] (by rfl) (by rfl) _ _ KR.out infoPat rfl zeroC_one ?_))
          refine bodyPost_ret (results_row_tmp rfl _ _ gr _ #[.int .u8 0, .int .u16 0, .slice none 0 0, .slice none 0 0] _ rfl (KR.out.row _) underPat rfl infoPat) rfl ?_
          rw [hdP3.out]
          exact ⟨_, rfl, zero_in _ _, BW.out.trans (kp3.below (fun k e => by rw [e]; exact Nat.le_of_eq hgw.out.1.symm) BW.out.size)⟩
      · have hmi : (0 : Int) < (m : Int) := by omega
        have hez : ((e' : Int) == 0) = false := by rw [beq_eq_false_iff_ne]; have := hstop.out; omega
        go_wp2_with fail
        refine HEr.out.mono ?_
        rintro e _ ⟨rfl, rfl⟩
        go_wp2_with fail
        refine HEn.out.mono ?_
        rintro e _ ⟨rfl, rfl⟩
        by_cases h1 : re = 0
        · have z0 : ((re : Int) != 0) = false := by rw [h1]; rfl
          have hdP2 : Hid (decP l = if makeN18 (idR a s) os ≠ 0 then (zeroPat, 4) else (makeV18 (idR a s) os, 0)) := by rw [Hid, hdP.out, if_neg (by simpa using h1)]
          replace h1 := Lib.hid h1
          clear hdP
          go_wp2_with (refine wpList_load_row rfl 24 _ (by rfl) gi (by rfl) _ _ _ _ KI.out underPid rfl infoPid ?_)
          refine (make18_far (idR a s) os _ _ _ _ (by omega) OA.out).mono ?_
          rintro e w20 ⟨cs, rfl, pa, b20⟩
          obtain ⟨q, hq⟩ : ∃ q, q = makeV18 (idR a s) os := ⟨_, rfl⟩
          rw [← hq] at pa hdP2
          replace hq := Lib.hid hq
          have pa2 := pa
          obtain ⟨⟨A3, c3, A4, c4, rfl, _⟩, _, _⟩ := pa2
          have hgrw : Hid (gr < wr.heap.size) := KR.out.lt
          have hwwr : Hid (w.heap.size ≤ wr.heap.size) := BW.out.size
          have KR20 := Lib.hid (KR.out.ext b20)
          have B20 := Lib.hid (BW.out.trans (b20.mono BW.out.size))
          have PA := Lib.hid pa
          clear pa b20 KI KR BW OA
          have KZ : Hid (Blk (w20.alloc (.cells #[.int .u8 0, .int .u16 0, .slice none 0 0, .slice none 0 0] 28)) w20.heap.size 28 #[.int .u8 0, .int .u16 0, .slice none 0 0, .slice none 0 0]) := Blk.new _ _ _
          have KQ : Hid (Blk ((w20.alloc (.cells #[.int .u8 0, .int .u16 0, .slice none 0 0, .slice none 0 0] 28)).setRow w20.heap.size (patC q.1 A3 q.2.1.length c3 A4 q.2.2.length c4).toArray) w20.heap.size 28 (patC q.1 A3 q.2.1.length c3 A4 q.2.2.length c4).toArray) := KZ.out.row _
          have BN : Hid (Below w20.heap.size w20 ((w20.alloc (.cells #[.int .u8 0, .int .u16 0, .slice none 0 0, .slice none 0 0] 28)).setRow w20.heap.size (patC q.1 A3 q.2.1.length c3 A4 q.2.2.length c4).toArray)) := below_setRow (below_new w20 _) (Nat.le_refl _) _
          go_upto_region 13 with (first
            | (refine wpList_alloced (allocPat _) ?_)
            | (refine wpList_store_row rfl 28 _ _ (by rfl) w20.heap.size (patC q.1 A3 q.2.1.length c3 A4 q.2.2.length c4).toArray (by rfl) (by rfl) _ _ KZ.out infoPat rfl patC_one ?_))
          generalize ((w20.alloc (.cells #[.int .u8 0, .int .u16 0, .slice none 0 0, .slice none 0 0] 28)).setRow w20.heap.size (patC q.1 A3 q.2.1.length c3 A4 q.2.2.length c4).toArray) = w21 at *
          have KR21 := Lib.hid (KR20.out.ext BN.out)
          have B21 := Lib.hid (B20.out.trans (BN.out.mono B20.out.size))
          have PA21 := Lib.hid (PA.out.ext BN.out)
          clear KZ BN KR20 B20 PA
          generalize w20.heap.size = gq at *
          by_cases hmk : patB (idR a s, depsV (idR a s) os, os) = true
          · have hN : makeN18 (idR a s) os = 0 := by unfold makeN18; rw [if_pos hmk]
            have hdP3 : Hid (decP l = (q, 0)) := by rw [Hid, hdP2.out, if_neg (by simpa using hN)]
            rw [hN]
            clear hdP2 hN hq hmk
            have kp3 : Kept (fun k => k = gr) w21 (w21.setRow gr (patC q.1 A3 q.2.1.length c3 A4 q.2.2.length c4).toArray) := kept_row (fun k => k = gr) w21 rfl _
            go_wp2_with (first
              | (refine wpList_load_row rfl 28 _ (by rfl) gq (by rfl) _ _ _ _ KQ.out underPat rfl infoPat ?_)
              | (refine wpList_store_row rfl 28 _ _ (by rfl) gr (patC q.1 A3 q.2.1.length c3 A4 q.2.2.length c4).toArray (by rfl) (by rfl) _ _ KR21.out infoPat rfl patC_one ?_))
            refine bodyPost_ret (results_row_tmp rfl _ _ gr _ (patC q.1 A3 q.2.1.length c3 A4 q.2.2.length c4).toArray _ rfl (KR21.out.row _) underPat rfl infoPat) rfl ?_
            rw [hdP3.out]
            exact ⟨_, rfl, (PA21.out.stay (kp3.stay fun k _ h1 h2 => by have h1 : wr.heap.size ≤ k := h1; have h2 : k = gr := h2; have := hgrw.out; omega)).mono (fun k h => Nat.le_trans hwwr.out h), B21.out.trans (kp3.below (fun k e => by rw [e]; exact Nat.le_of_eq hgw.out.1.symm) B21.out.size)⟩
          · have hN : makeN18 (idR a s) os = 1 := by unfold makeN18; rw [if_neg hmk]
            have hdP3 : Hid (decP l = (zeroPat, 4)) := by rw [Hid, hdP2.out, if_pos (by rw [hN]; decide)]
            rw [hN]
            clear hdP2 hN hq hmk
            have kp3 : Kept (fun k => k = gr) w21 (w21.setRow gr #[.int .u8 0, .int .u16 0, .slice none 0 0, .slice none 0 0]) := kept_row (fun k => k = gr) w21 rfl _
            go_wp2_with (first
              | (refine wpList_built (buildZero _) (by rfl) ?_)
              | (refine wpList_store_row rfl 28 _ _ (by rfl) gr #[.int .u8 0, .int .u16 0, .slice none 0 0, .slice none 0 0] (by rfl) (by rfl) _ _ KR21.out infoPat rfl zeroC_one ?_))
            refine bodyPost_ret (results_row_tmp rfl _ _ gr _ #[.int .u8 0, .int .u16 0, .slice none 0 0, .slice none 0 0] _ rfl (KR21.out.row _) underPat rfl infoPat) rfl ?_
            rw [hdP3.out]
            exact ⟨_, rfl, zero_in _ _, B21.out.trans (kp3.below (fun k e => by rw [e]; exact Nat.le_of_eq hgw.out.1.symm) B21.out.size)⟩
        · have z0 : ((re : Int) != 0) = true := by rw [bne_iff_ne]; omega
          have hdP3 : Hid (decP l = (zeroPat, re)) := by rw [Hid, hdP.out, if_pos h1]
          clear hdP
          have kp3 : Kept (fun k => k = gr) wr (wr.setRow gr #[.int .u8 0, .int .u16 0, .slice none 0 0, .slice none 0 0]) := kept_row (fun k => k = gr) wr rfl _
          go_wp2_with (first
            | (refine wpList_built (buildZero _) (by rfl) ?_)
            | (refine wpList_store_row rfl 28 _ _ (by rfl) gr #[.int .u8 0, .int .u16 0, .slice none 0 0, .slice none 0 0] (by rfl) (by rfl) _ _ KR.out infoPat rfl zeroC_one ?_))
          refine bodyPost_ret (results_row_tmp rfl _ _ gr _ #[.int .u8 0, .int .u16 0, .slice none 0 0, .slice none 0 0] _ rfl (KR.out.row _) underPat rfl infoPat) rfl ?_
          rw [hdP3.out]
          exact ⟨_, rfl, zero_in _ _, BW.out.trans (kp3.below (fun k e => by rw [e]; exact Nat.le_of_eq hgw.out.1.symm) BW.out.size)⟩
end Go.Proofs.YtdafiipedlglpaaDoor
