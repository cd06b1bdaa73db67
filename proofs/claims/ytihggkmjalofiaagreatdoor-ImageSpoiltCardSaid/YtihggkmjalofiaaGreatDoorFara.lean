/- What is decoded lies in new blocks: walked. -/
import Derived.Test.YtihggkmjalofiaaGreatDoorPcds
import Derived.Test.YtihggkmjalofiaaGreatDoorIdxw
import Derived.Test.YtihggkmjalofiaaGreatDoorCrcp
import Derived.Test.YtihggkmjalofiaaGreatDoorLists
import Derived.Test.YtihggkmjalofiaaGreatDoorPaws
import Derived.Test.YtihggkmjalofiaaGreatDoorOps
import Derived.Test.YtihggkmjalofiaaGreatDoorCrcy
import Derived.Lib.ConvBytes
namespace Go.Proofs.YtihggkmjalofiaaGreatDoor
open Go.RowKit

def MadeFar (w : World) (q : PatV) (n : Int) (e : Ending) (w' : World) : Prop := ∃ cs : List Value, e = .returned (.tuple #[.agg cs.toArray, .int .i64 n]) ∧ PatIn w' (fun k => w.heap.size ≤ k) cs q ∧ Below w.heap.size w w'
theorem zero_in (w : World) (G : Nat → Prop) : PatIn w G [.int .u8 0, .int .u16 0, .slice none 0 0, .slice none 0 0] zeroPat :=
  ⟨⟨none, 0, none, 0, rfl, ⟨rfl, rfl, fun h => absurd h (by decide)⟩, ⟨rfl, ⟨rfl, fun h => absurd h (by decide)⟩, by simp [zeroPat]⟩, fun h => absurd h (by decide), fun h => absurd h (by decide)⟩, by decide, by decide⟩
set_option maxRecDepth 100000 in
set_option maxHeartbeats 4000000 in
theorem make18_far (id : PidV) (l : List OpV) (w : World) (A : Option Addr) (n c : Nat) (hn : n ≤ 300) (h : OpsAt w A n l) :
    Calls Tryz.prog 130 #[.agg (encP id).toArray, .slice A n c] w (MadeFar w (makeV18 id l) (makeN18 id l)) := by
  have K1 : Hid (Blk ((w.alloc (.cells (encP id).toArray 27)).alloc (.cells #[.int .u8 0, .int .u16 0, .slice none 0 0, .slice none 0 0] 31)) w.heap.size 27 (encP id).toArray) := (Blk.new _ _ _).alloc _
  have K2 : Hid (Blk ((w.alloc (.cells (encP id).toArray 27)).alloc (.cells #[.int .u8 0, .int .u16 0, .slice none 0 0, .slice none 0 0] 31)) (w.heap.size + 1) 31 #[.int .u8 0, .int .u16 0, .slice none 0 0, .slice none 0 0]) := Blk.newAt (by simp) _ _
  have B0 : Hid (Below w.heap.size w ((w.alloc (.cells (encP id).toArray 27)).alloc (.cells #[.int .u8 0, .int .u16 0, .slice none 0 0, .slice none 0 0] 31))) := ((Below.refl _ _).alloc (Nat.le_refl _) _).alloc (by simp) _
  have hcD : ∀ args u, (callFunc 182 args).run Tryz.prog u = .ok (.enter 182 args) u := enters_of Tryz.func182 (by kernel_rfl) rfl
  have hcC : ∀ args u, (callFunc 188 args).run Tryz.prog u = .ok (.enter 188 args) u := enters_of Tryz.func188 (by kernel_rfl) rfl
  go_enter Tryz.func130, Tryz.ntmps130
  go_upto_region 1 with fail
  generalize ((w.alloc (.cells (encP id).toArray 27)).alloc (.cells #[.int .u8 0, .int .u16 0, .slice none 0 0, .slice none 0 0] 31)) = w2 at *
  have L2 := Lib.hid (h.ext B0.out)
  have HD := Lib.hid (fun (u : World) (hu : Below w2.heap.size w2 u) => depsP id l u A n c hn (L2.out.ext hu))
  have HC := Lib.hid (fun (u : World) (hu : Below w2.heap.size w2 u) => cloneO l u A n c (by omega) (L2.out.ext hu))
  have L0 := Lib.hid h
  clear h
  go_cut [6] (fun s wx => ∃ (g : Nat) (A1 : Option Addr) (c1 : Nat) (A2 : Option Addr) (c2 : Nat), s = .pointer (some ⟨g, 0, none⟩) ∧ Blk wx g 31 (patC id A1 (depsV id l).length c1 A2 n c2).toArray ∧ wx.ownsRow w2.heap.size 27 2 (.slice A1 (depsV id l).length c1) (depsV id l).length ((depsV id l).flatMap encP) ∧ wx.ownsRow w2.heap.size 122 8 (.slice A2 n c2) n (l.flatMap encO) ∧ Below w2.heap.size w2 wx)
  case first =>
    refine wp_region_held (S := fun w' => Below w2.heap.size w2 w') mixedS ?_
    have B3 : Hid (Below w2.heap.size w2 w2.drew) := (Below.refl _ _).drew
    change wpAnyH _ _ _ _ _ _ _ _ w2.drew
    generalize w2.drew = w3 at *
    simp only [List.size_toArray, List.length_cons, List.length_nil]
    refine take_row (i := 0) rfl (by kernel_rfl) (by kernel_rfl) (by kernel_rfl) (fun _ _ _ h => h) rfl rfl (fun _ h => K1.out.ext h) underPid rfl infoPid B3.out ?_
    simp only [Act.put, List.setIfInBounds_toArray, List.set_cons_zero, List.set_cons_succ]
    refine take_row (i := 1) rfl (by kernel_rfl) (by kernel_rfl) (by kernel_rfl) (fun _ _ _ h => h) rfl rfl (fun _ h => K1.out.ext h) underPid rfl infoPid B3.out ?_
    simp only [Act.put, List.setIfInBounds_toArray, List.set_cons_zero, List.set_cons_succ]
    refine take_move (i := 2) (v := (.slice A n c)) rfl (by kernel_rfl) (by kernel_rfl) (by kernel_rfl) (fun _ _ _ h => h) rfl rfl B3.out ?_
    simp only [Act.put, List.setIfInBounds_toArray, List.set_cons_zero, List.set_cons_succ]
    refine take_move (i := 4) (v := (.slice A n c)) rfl (by kernel_rfl) (by kernel_rfl) (by kernel_rfl) (fun _ _ _ h => h) rfl rfl B3.out ?_
    simp only [Act.put, List.setIfInBounds_toArray, List.set_cons_zero, List.set_cons_succ]
    refine wpAnyH_all (rs := [3, 7]) (by kernel_rfl) (by simp) ?_
    intro i hi
    simp only [List.mem_cons, List.not_mem_nil, or_false] at hi
    rcases hi with rfl | rfl
    · refine wpOp_of rfl rfl (wp_called (args := #[.agg (encP id).toArray, .slice A n c]) hcD (by simp only [List.map_toArray, List.map_cons, List.map_nil]; rfl) (HD.out w3 B3.out) ?_)
      rintro e w_3 ⟨v_4, rfl, o_1, h_2⟩
      have o_1 := Lib.hid (own_mono' o_1 B3.out.size)
      obtain ⟨A1, c1, rfl, hc1, _⟩ := Sl.of_own o_1.out
      refine ⟨_, rfl, ext_trans B3.out h_2, ?_⟩
      simp only [Act.put, List.setIfInBounds_toArray, List.set_cons_zero, List.set_cons_succ]
      have B_5 := Lib.hid (ext_trans B3.out h_2)
      clear B3
      clear h_2
      refine wpAnyH_all (rs := [5, 7]) (by kernel_rfl) (by simp) ?_
      intro i hi
      simp only [List.mem_cons, List.not_mem_nil, or_false] at hi
      rcases hi with rfl | rfl
      · refine wpOp_of rfl rfl (wp_called (args := #[.slice A n c]) hcC (by simp only [List.map_toArray, List.map_cons, List.map_nil]; rfl) (HC.out w_3 B_5.out) ?_)
        rintro e w_8 ⟨v_9, rfl, o_6, h_7⟩
        have o_6 := Lib.hid (own_mono' o_6 B_5.out.size)
        obtain ⟨A2, c2, rfl, hc2, _⟩ := Sl.of_own o_6.out
        refine ⟨_, rfl, ext_trans B_5.out h_7, ?_⟩
        simp only [Act.put, List.setIfInBounds_toArray, List.set_cons_zero, List.set_cons_succ]
        have B_10 := Lib.hid (ext_trans B_5.out h_7)
        have F_11 := Lib.hid (own_ext o_1.out h_7)
        clear B_5 o_1
        clear h_7
        refine takeV (i := 6) rfl (by kernel_rfl) (by kernel_rfl) (by kernel_rfl) (fun _ _ _ h => h) rfl (fun w' _ => exBuild (by simp only [List.map_toArray, List.map_cons, List.map_nil]; rfl) (buildPat id A1 (depsV id l).length c1 A2 n c2 w')) B_10.out ?_
        simp only [Act.put, List.setIfInBounds_toArray, List.set_cons_zero, List.set_cons_succ]
        refine wpAnyH_all (rs := [7]) (by kernel_rfl) (by simp) ?_
        intro i hi
        simp only [List.mem_cons, List.not_mem_nil, or_false] at hi
        subst hi
        refine wpOp_of rfl rfl (wp_alloced (allocPat _) ?_)
        refine ⟨ext_trans B_10.out (below_new _ _), ?_⟩
        simp only [Act.put, List.setIfInBounds_toArray, List.set_cons_zero, List.set_cons_succ]
        have k_12 := Blk.new w_8 31 #[.int .u8 0, .int .u16 0, .slice none 0 0, .slice none 0 0]
        have h_13 := below_new w_8 (.cells #[.int .u8 0, .int .u16 0, .slice none 0 0, .slice none 0 0] 31)
        have gz_16 : w2.heap.size ≤ w_8.heap.size := B_10.out.size
        generalize (w_8.alloc (.cells #[.int .u8 0, .int .u16 0, .slice none 0 0, .slice none 0 0] 31)) = w_14 at *
        have k_12 := Lib.hid k_12
        have B_17 := Lib.hid (ext_trans B_10.out h_13)
        have F_18 := Lib.hid (own_ext F_11.out h_13)
        have F_19 := Lib.hid (own_ext o_6.out h_13)
        clear B_10 F_11 o_6
        clear h_13
        generalize w_8.heap.size = g at *
        refine wpAnyH_all (rs := [8]) (by kernel_rfl) (by simp) ?_
        intro i hi
        simp only [List.mem_cons, List.not_mem_nil, or_false] at hi
        subst hi
        refine wpOp_of rfl rfl (wp_stored (cs := (patC id A1 (depsV id l).length c1 A2 n c2).toArray) rfl rfl k_12.out infoPat rfl patC_one ?_)
        refine ⟨below_setRow B_17.out gz_16 _, ?_⟩
        have KK := Lib.hid (k_12.out.row (patC id A1 (depsV id l).length c1 A2 n c2).toArray)
        have DD := Lib.hid (own_rowFar (cs' := (patC id A1 (depsV id l).length c1 A2 n c2).toArray) F_18.out k_12.out (by decide))
        have CC := Lib.hid (own_rowFar (cs' := (patC id A1 (depsV id l).length c1 A2 n c2).toArray) F_19.out k_12.out (by decide))
        have BB := Lib.hid (below_setRow B_17.out gz_16 (patC id A1 (depsV id l).length c1 A2 n c2).toArray)
        generalize (w_14.setRow g (patC id A1 (depsV id l).length c1 A2 n c2).toArray) = w9 at *
        refine wpAnyH_done (by kernel_rfl) ?_ _
        go_wp2_with fail
        go_meet
        case rel => exact ⟨g, A1, c1, A2, c2, rfl, KK.out, DD.out, CC.out, BB.out⟩
      · refine wpOp_of rfl rfl (wp_alloced (allocPat _) ?_)
        refine ⟨ext_trans B_5.out (below_new _ _), ?_⟩
        simp only [Act.put, List.setIfInBounds_toArray, List.set_cons_zero, List.set_cons_succ]
        have k_20 := Blk.new w_3 31 #[.int .u8 0, .int .u16 0, .slice none 0 0, .slice none 0 0]
        have h_21 := below_new w_3 (.cells #[.int .u8 0, .int .u16 0, .slice none 0 0, .slice none 0 0] 31)
        have gz_24 : w2.heap.size ≤ w_3.heap.size := B_5.out.size
        generalize (w_3.alloc (.cells #[.int .u8 0, .int .u16 0, .slice none 0 0, .slice none 0 0] 31)) = w_22 at *
        have k_20 := Lib.hid k_20
        have B_25 := Lib.hid (ext_trans B_5.out h_21)
        have F_26 := Lib.hid (own_ext o_1.out h_21)
        clear B_5 o_1
        clear h_21
        generalize w_3.heap.size = g at *
        refine wpAnyH_all (rs := [5]) (by kernel_rfl) (by simp) ?_
        intro i hi
        simp only [List.mem_cons, List.not_mem_nil, or_false] at hi
        subst hi
        refine wpOp_of rfl rfl (wp_called (args := #[.slice A n c]) hcC (by simp only [List.map_toArray, List.map_cons, List.map_nil]; rfl) (HC.out w_22 B_25.out) ?_)
        rintro e w_29 ⟨v_30, rfl, o_27, h_28⟩
        have o_27 := Lib.hid (own_mono' o_27 B_25.out.size)
        obtain ⟨A2, c2, rfl, hc2, _⟩ := Sl.of_own o_27.out
        refine ⟨_, rfl, ext_trans B_25.out h_28, ?_⟩
        simp only [Act.put, List.setIfInBounds_toArray, List.set_cons_zero, List.set_cons_succ]
        have B_31 := Lib.hid (ext_trans B_25.out h_28)
        have F_32 := Lib.hid (own_ext F_26.out h_28)
        have F_33 := Lib.hid (k_20.out.ext h_28)
        clear B_25 F_26 k_20
        clear h_28
        refine takeV (i := 6) rfl (by kernel_rfl) (by kernel_rfl) (by kernel_rfl) (fun _ _ _ h => h) rfl (fun w' _ => exBuild (by simp only [List.map_toArray, List.map_cons, List.map_nil]; rfl) (buildPat id A1 (depsV id l).length c1 A2 n c2 w')) B_31.out ?_
        simp only [Act.put, List.setIfInBounds_toArray, List.set_cons_zero, List.set_cons_succ]
        refine wpAnyH_all (rs := [8]) (by kernel_rfl) (by simp) ?_
        intro i hi
        simp only [List.mem_cons, List.not_mem_nil, or_false] at hi
        subst hi
        refine wpOp_of rfl rfl (wp_stored (cs := (patC id A1 (depsV id l).length c1 A2 n c2).toArray) rfl rfl F_33.out infoPat rfl patC_one ?_)
        refine ⟨below_setRow B_31.out gz_24 _, ?_⟩
        have KK := Lib.hid (F_33.out.row (patC id A1 (depsV id l).length c1 A2 n c2).toArray)
        have DD := Lib.hid (own_rowFar (cs' := (patC id A1 (depsV id l).length c1 A2 n c2).toArray) F_32.out F_33.out (by decide))
        have CC := Lib.hid (own_rowFar (cs' := (patC id A1 (depsV id l).length c1 A2 n c2).toArray) o_27.out F_33.out (by decide))
        have BB := Lib.hid (below_setRow B_31.out gz_24 (patC id A1 (depsV id l).length c1 A2 n c2).toArray)
        generalize (w_29.setRow g (patC id A1 (depsV id l).length c1 A2 n c2).toArray) = w9 at *
        refine wpAnyH_done (by kernel_rfl) ?_ _
        go_wp2_with fail
        go_meet
        case rel => exact ⟨g, A1, c1, A2, c2, rfl, KK.out, DD.out, CC.out, BB.out⟩
    · refine wpOp_of rfl rfl (wp_alloced (allocPat _) ?_)
      refine ⟨ext_trans B3.out (below_new _ _), ?_⟩
      simp only [Act.put, List.setIfInBounds_toArray, List.set_cons_zero, List.set_cons_succ]
      have k_34 := Blk.new w3 31 #[.int .u8 0, .int .u16 0, .slice none 0 0, .slice none 0 0]
      have h_35 := below_new w3 (.cells #[.int .u8 0, .int .u16 0, .slice none 0 0, .slice none 0 0] 31)
      have gz_38 : w2.heap.size ≤ w3.heap.size := B3.out.size
      generalize (w3.alloc (.cells #[.int .u8 0, .int .u16 0, .slice none 0 0, .slice none 0 0] 31)) = w_36 at *
      have k_34 := Lib.hid k_34
      have B_39 := Lib.hid (ext_trans B3.out h_35)
      clear B3
      clear h_35
      generalize w3.heap.size = g at *
      refine wpAnyH_all (rs := [3]) (by kernel_rfl) (by simp) ?_
      intro i hi
      simp only [List.mem_cons, List.not_mem_nil, or_false] at hi
      subst hi
      refine wpOp_of rfl rfl (wp_called (args := #[.agg (encP id).toArray, .slice A n c]) hcD (by simp only [List.map_toArray, List.map_cons, List.map_nil]; rfl) (HD.out w_36 B_39.out) ?_)
      rintro e w_42 ⟨v_43, rfl, o_40, h_41⟩
      have o_40 := Lib.hid (own_mono' o_40 B_39.out.size)
      obtain ⟨A1, c1, rfl, hc1, _⟩ := Sl.of_own o_40.out
      refine ⟨_, rfl, ext_trans B_39.out h_41, ?_⟩
      simp only [Act.put, List.setIfInBounds_toArray, List.set_cons_zero, List.set_cons_succ]
      have B_44 := Lib.hid (ext_trans B_39.out h_41)
      have F_45 := Lib.hid (k_34.out.ext h_41)
      clear B_39 k_34
      clear h_41
      refine wpAnyH_all (rs := [5]) (by kernel_rfl) (by simp) ?_
      intro i hi
      simp only [List.mem_cons, List.not_mem_nil, or_false] at hi
      subst hi
      refine wpOp_of rfl rfl (wp_called (args := #[.slice A n c]) hcC (by simp only [List.map_toArray, List.map_cons, List.map_nil]; rfl) (HC.out w_42 B_44.out) ?_)
      rintro e w_48 ⟨v_49, rfl, o_46, h_47⟩
      have o_46 := Lib.hid (own_mono' o_46 B_44.out.size)
      obtain ⟨A2, c2, rfl, hc2, _⟩ := Sl.of_own o_46.out
      refine ⟨_, rfl, ext_trans B_44.out h_47, ?_⟩
      simp only [Act.put, List.setIfInBounds_toArray, List.set_cons_zero, List.set_cons_succ]
      have B_50 := Lib.hid (ext_trans B_44.out h_47)
      have F_51 := Lib.hid (F_45.out.ext h_47)
      have F_52 := Lib.hid (own_ext o_40.out h_47)
      clear B_44 F_45 o_40
      clear h_47
      refine takeV (i := 6) rfl (by kernel_rfl) (by kernel_rfl) (by kernel_rfl) (fun _ _ _ h => h) rfl (fun w' _ => exBuild (by simp only [List.map_toArray, List.map_cons, List.map_nil]; rfl) (buildPat id A1 (depsV id l).length c1 A2 n c2 w')) B_50.out ?_
      simp only [Act.put, List.setIfInBounds_toArray, List.set_cons_zero, List.set_cons_succ]
      refine wpAnyH_all (rs := [8]) (by kernel_rfl) (by simp) ?_
      intro i hi
      simp only [List.mem_cons, List.not_mem_nil, or_false] at hi
      subst hi
      refine wpOp_of rfl rfl (wp_stored (cs := (patC id A1 (depsV id l).length c1 A2 n c2).toArray) rfl rfl F_51.out infoPat rfl patC_one ?_)
      refine ⟨below_setRow B_50.out gz_38 _, ?_⟩
      have KK := Lib.hid (F_51.out.row (patC id A1 (depsV id l).length c1 A2 n c2).toArray)
      have DD := Lib.hid (own_rowFar (cs' := (patC id A1 (depsV id l).length c1 A2 n c2).toArray) F_52.out F_51.out (by decide))
      have CC := Lib.hid (own_rowFar (cs' := (patC id A1 (depsV id l).length c1 A2 n c2).toArray) o_46.out F_51.out (by decide))
      have BB := Lib.hid (below_setRow B_50.out gz_38 (patC id A1 (depsV id l).length c1 A2 n c2).toArray)
      generalize (w_48.setRow g (patC id A1 (depsV id l).length c1 A2 n c2).toArray) = w9 at *
      refine wpAnyH_done (by kernel_rfl) ?_ _
      go_wp2_with fail
      go_meet
      case rel => exact ⟨g, A1, c1, A2, c2, rfl, KK.out, DD.out, CC.out, BB.out⟩
  case rest =>
    obtain ⟨g, A1, c1, A2, c2, rfl, kg, od, oc, hbx⟩ := hcut
    obtain ⟨wx, rfl⟩ : ∃ wx, wx = wc := ⟨_, rfl⟩
    have KG := Lib.hid kg
    have OD := Lib.hid od
    have OC := Lib.hid oc
    have B3 := Lib.hid (B0.out.trans (hbx.mono B0.out.size))
    have hw20 : Hid (w.heap.size ≤ w2.heap.size) := B0.out.size
    have PA : Hid (PatAt wx (patC id A1 (depsV id l).length c1 A2 n c2) (id, depsV id l, l)) := by
      obtain ⟨A3, c3, he, _, P3⟩ := PidsAt.of_own OD.out rfl
      injection he with e1 e2 e3
      subst e1 e3
      obtain ⟨A4, c4, he, _, P4⟩ := OpsAt.of_own OC.out L2.out.len L2.out.ok
      injection he with e1 e2 e3
      subst e1 e3
      exact pat_at P3 P4 hn
    have HG := Lib.hid (good18_any (id, depsV id l, l) wx _ PA.out)
    have KR := Lib.hid (K2.out.ext hbx)
    have hgr : Hid (w.heap.size ≤ w.heap.size + 1) := Nat.le_succ _
    clear kg od hbx B0 K1 K2 HD hcD HC hcC
    generalize w.heap.size + 1 = gr at *
    cases hp : patB (id, depsV id l, l)
    · rw [hp] at HG
      have HM : Hid (makeV18 id l = zeroPat ∧ makeN18 id l = 1) := ⟨by unfold makeV18; simp [hp], by unfold makeN18; simp [hp]⟩
      clear hp
      go_wp2_with (refine wpList_load_row rfl 31 _ (by rfl) g (by rfl) _ _ _ _ KG.out underPat rfl infoPat ?_)
      refine HG.out.mono ?_
      rintro e w4 ⟨rfl, b4⟩
      have KG := Lib.hid (KG.out.ext b4)
      have KR := Lib.hid (KR.out.ext b4)
      have OD := Lib.hid (own_ext OD.out b4)
      have OC := Lib.hid (own_ext OC.out b4)
      have B4 := Lib.hid (B3.out.trans (b4.mono B3.out.size))
      clear b4 HG B3 PA
      have KZ := Lib.hid (KR.out.row #[.int .u8 0, .int .u16 0, .slice none 0 0, .slice none 0 0])
      have OD := Lib.hid (own_rowFar (cs' := #[.int .u8 0, .int .u16 0, .slice none 0 0, .slice none 0 0]) OD.out KR.out (by decide))
      have OC := Lib.hid (own_rowFar (cs' := #[.int .u8 0, .int .u16 0, .slice none 0 0, .slice none 0 0]) OC.out KR.out (by decide))
      have B5 := Lib.hid (below_setRow B4.out hgr.out #[.int .u8 0, .int .u16 0, .slice none 0 0, .slice none 0 0])
      have HI : Hid ((Tryz.prog.info? 31).map (·.size) = some (#[.int .u8 0, .int .u16 0, .slice none 0 0, .slice none 0 0] : Array Value).size) := infoPat
      go_wp2_with (first
        | (refine wpList_load_row rfl 31 _ (by rfl) g (by rfl) _ _ _ _ KG.out underPat rfl infoPat ?_)
        | (refine wpList_built (buildZero _) (by rfl) ?_)
        | (refine wpList_store_row rfl 31 _ _ (by rfl) gr #[.int .u8 0, .int .u16 0, .slice none 0 0, .slice none 0 0] (by rfl) (by rfl) _ _ KR.out HI.out rfl zeroC_one ?_))
      generalize (w4.setRow gr #[.int .u8 0, .int .u16 0, .slice none 0 0, .slice none 0 0]) = w5 at *
      have z0 := KZ.out.cell 0
      have z1 := KZ.out.cell 1
      have z2 := KZ.out.cell 2
      have z3 := KZ.out.cell 3
      simp at z0 z1 z2 z3
      refine bodyPost_ret (v := .tuple #[.agg (#[.int .u8 0, .int .u16 0, .slice none 0 0, .slice none 0 0] : Array Value), .int .i64 1]) ?_ rfl ?_
      · simp [results, Tryz.results130, go_sem, z0, z1, z2, z3]
      rw [HM.out.1, HM.out.2]
      refine ⟨_, rfl, ?_, B5.out⟩
      exact zero_in _ _
    · rw [hp] at HG
      have HM : Hid (makeV18 id l = (id, depsV id l, l) ∧ makeN18 id l = 0) := ⟨by unfold makeV18; simp [hp], by unfold makeN18; simp [hp]⟩
      clear hp
      go_wp2_with (refine wpList_load_row rfl 31 _ (by rfl) g (by rfl) _ _ _ _ KG.out underPat rfl infoPat ?_)
      refine HG.out.mono ?_
      rintro e w4 ⟨rfl, b4⟩
      have KG := Lib.hid (KG.out.ext b4)
      have KR := Lib.hid (KR.out.ext b4)
      have OD := Lib.hid (own_ext OD.out b4)
      have OC := Lib.hid (own_ext OC.out b4)
      have B4 := Lib.hid (B3.out.trans (b4.mono B3.out.size))
      clear b4 HG B3 PA
      have KZ := Lib.hid (KR.out.row (patC id A1 (depsV id l).length c1 A2 n c2).toArray)
      have OD := Lib.hid (own_rowFar (cs' := (patC id A1 (depsV id l).length c1 A2 n c2).toArray) OD.out KR.out (by decide))
      have OC := Lib.hid (own_rowFar (cs' := (patC id A1 (depsV id l).length c1 A2 n c2).toArray) OC.out KR.out (by decide))
      have B5 := Lib.hid (below_setRow B4.out hgr.out (patC id A1 (depsV id l).length c1 A2 n c2).toArray)
      have HI : Hid ((Tryz.prog.info? 31).map (·.size) = some ((patC id A1 (depsV id l).length c1 A2 n c2).toArray).size) := infoPat
      go_wp2_with (first
        | (refine wpList_load_row rfl 31 _ (by rfl) g (by rfl) _ _ _ _ KG.out underPat rfl infoPat ?_)
        | (refine wpList_built (buildZero _) (by rfl) ?_)
        | (refine wpList_store_row rfl 31 _ _ (by rfl) gr (patC id A1 (depsV id l).length c1 A2 n c2).toArray (by rfl) (by rfl) _ _ KR.out HI.out rfl patC_one ?_))
      generalize (w4.setRow gr (patC id A1 (depsV id l).length c1 A2 n c2).toArray) = w5 at *
      have z0 := KZ.out.cell 0
      have z1 := KZ.out.cell 1
      have z2 := KZ.out.cell 2
      have z3 := KZ.out.cell 3
      simp [patC] at z0 z1 z2 z3
      refine bodyPost_ret (v := .tuple #[.agg ((patC id A1 (depsV id l).length c1 A2 n c2).toArray : Array Value), .int .i64 0]) ?_ rfl ?_
      · simp [results, Tryz.results130, go_sem, z0, z1, z2, z3, patC]
      rw [HM.out.1, HM.out.2]
      refine ⟨_, rfl, ?_, B5.out⟩
      have e := L2.out.len
      subst e
      have hd := depsV_le id l
      exact (PatIn.of_copy (p := (id, depsV id l, l)) OD.out OC.out L2.out.ok (by unfold maxLen; show (depsV id l).length ≤ _; omega) (by unfold maxLen; show l.length ≤ _; omega)).mono fun k e => Nat.le_trans hw20.out e.1
set_option maxRecDepth 100000 in
set_option maxHeartbeats 8000000 in
theorem decode19_far (l : List UInt8) (w : World) (A : Option Addr) (n c : Nat) (h : BytesAt w A n c l) : Calls Tryz.prog 179 #[.slice A n c] w (MadeFar w (decP l).1 ((decP l).2 : Int)) := by
  have KR0 : Hid (Blk (w.alloc (.cells #[.int .u8 0, .int .u16 0, .slice none 0 0, .slice none 0 0] 31)) w.heap.size 31 #[.int .u8 0, .int .u16 0, .slice none 0 0, .slice none 0 0]) := Blk.new _ _ _
  have B0 : Hid (Below w.heap.size w (w.alloc (.cells #[.int .u8 0, .int .u16 0, .slice none 0 0, .slice none 0 0] 31))) := below_new _ _
  have H := Lib.hid (h.ext B0.out)
  clear h
  go_enter Tryz.func179, Tryz.ntmps179
  go_upto_region 1 with (refine wpList_alloced (allocPat _) ?_)
  generalize (w.alloc (.cells #[.int .u8 0, .int .u16 0, .slice none 0 0, .slice none 0 0] 31)) = w2 at *
  obtain ⟨gr, hgr⟩ : ∃ gr, gr = w.heap.size := ⟨_, rfl⟩
  rw [← hgr] at KR0 ⊢
  replace hgr := Lib.hid hgr
  go_wp2_with fail
  refine (rdOpen_any l _ _ _ _ H.out).mono ?_
  rintro e w3 ⟨g, rfl, R, b3, hg⟩
  have R3 := Lib.hid R
  have KR3 := Lib.hid (KR0.out.ext b3)
  have B3 := Lib.hid (B0.out.trans (b3.mono B0.out.size))
  have hrg : Hid (gr < g) := by rw [Hid, hg]; exact KR0.out.lt
  obtain ⟨B, hBB⟩ : ∃ B, B = w2.heap.size := ⟨_, rfl⟩
  rw [← hBB] at R3
  clear R b3 hg H KR0 B0 hBB
  go_wp2_with fail
  refine (rdByte_any R3.out 255).mono ?_
  rintro e w4 ⟨rfl, kp, R⟩
  have hal := rByte_le 255 l 0
  have hdec : Hid (headR2 l 0 = bindR (rNum 65535) (fun s => bindR (rNum 200) fun n => bindR (opsRd n) fun os => pureR (idR (rByte 255 l 0).1 s, os)) (rByte 255 l 0).2.1 (rByte 255 l 0).2.2) := rfl
  obtain ⟨a, l1, e1, hB1⟩ : ∃ x y z, rByte 255 l 0 = (x, y, z) := ⟨_, _, _, rfl⟩
  rw [hB1] at hal R hdec ⊢
  dsimp only at hal R hdec ⊢
  clear hB1
  have R4 := Lib.hid R
  have hgw : Hid (gr = w.heap.size ∧ w.heap.size ≤ g) := ⟨hgr.out, by have := hrg.out; have := hgr.out; omega⟩
  have B4 : Hid (Below w.heap.size w w4) := B3.out.trans (kp.below (fun k e => by rw [e]; exact hgw.out.2) B3.out.size)
  have KR4 := Lib.hid (KR3.out.keep (kp.block gr KR3.out.lt (by have := hrg.out; omega)))
  clear kp R R3 KR3 B3
  have KI : Hid (Blk (w4.alloc (.cells #[.int .u8 (a : Int), .int .u16 0] 27)) w4.heap.size 27 #[.int .u8 (a : Int), .int .u16 0]) := Blk.new _ _ _
  have BN : Hid (Below w4.heap.size w4 (w4.alloc (.cells #[.int .u8 (a : Int), .int .u16 0] 27))) := below_new _ _
  go_upto_region 3 with fail
  generalize (w4.alloc (.cells #[.int .u8 (a : Int), .int .u16 0] 27)) = w5 at *
  have R5 := Lib.hid (R4.out.ext BN.out)
  have KR5 := Lib.hid (KR4.out.ext BN.out)
  have B5 := Lib.hid (B4.out.trans (BN.out.mono B4.out.size))
  have hig : Hid (g < w4.heap.size) := by obtain ⟨_, _, h1, _⟩ := R4.out.ex; exact h1.lt
  clear BN R4 KR4 B4
  obtain ⟨gi, hgi⟩ : ∃ gi, gi = w4.heap.size := ⟨_, rfl⟩
  rw [← hgi] at KI hig ⊢
  clear hgi
  go_wp2_with fail
  refine (rdNum_any R5.out 65535).mono ?_
  rintro e w6 ⟨rfl, kp, R⟩
  have hsl := rNum_le 65535 l1 e1
  obtain ⟨s, l2, e2, hB2⟩ : ∃ x y z, rNum 65535 l1 e1 = (x, y, z) := ⟨_, _, _, rfl⟩
  have hdec2 : Hid (headR2 l 0 = bindR (rNum 200) (fun n => bindR (opsRd n) fun os => pureR (idR a s, os)) l2 e2) := by
    rw [Hid, hdec.out]
    unfold bindR
    rw [hB2]
  rw [hB2] at hsl R ⊢
  dsimp only at hsl R ⊢
  clear hB2 hdec
  have R6 := Lib.hid R
  have B6 : Hid (Below w.heap.size w w6) := B5.out.trans (kp.below (fun k e => by rw [e]; exact hgw.out.2) B5.out.size)
  have KR6 := Lib.hid (KR5.out.keep (kp.block gr KR5.out.lt (by have := hrg.out; omega)))
  have KI6 := Lib.hid (KI.out.keep (kp.block gi KI.out.lt (by have := hig.out; omega)))
  clear kp R R5 KR5 B5 KI
  have y1 : w6.cell? ⟨gi, 1, none⟩ = some (.int .u16 0) := KI6.out.cell 1
  have f1 : w6.frozen? ⟨gi, 1, none⟩ = false := KI6.out.fr 1
  have CV := Lib.hid (fun u => low16_run hsl u)
  go_upto_region 4 with (refine wpList_convB rfl (CV.out _) ?_)
  have kp2 : Kept (fun k => k = gi) w6 (w6.setCell ⟨gi, 1, none⟩ (.int .u16 (s : Int))) := (Kept.refl (fun k => k = gi) w6).setCell (p := ⟨gi, 1, none⟩) (.inl rfl) _
  have KI7 : Hid (Blk (w6.setCell ⟨gi, 1, none⟩ (.int .u16 (s : Int))) gi 27 (encP (idR a s)).toArray) := by
    have h1 := KI6.out.set_ 1 (.int .u16 (s : Int))
    rw [Hid, idR_lit (by omega) (by omega)]
    exact h1
  have R7 : Hid (RdAt (w6.setCell ⟨gi, 1, none⟩ (.int .u16 (s : Int))) B g l2 e2) := R6.out.keepB kp2 (by have := hig.out; omega) (by have := R6.out.ge; have := hig.out; omega)
  have KR7 := Lib.hid (KR6.out.keep (kp2.block gr KR6.out.lt (by have := hrg.out; have := hig.out; omega)))
  have B7 : Hid (Below w.heap.size w (w6.setCell ⟨gi, 1, none⟩ (.int .u16 (s : Int)))) := B6.out.trans (kp2.below (fun k e => by have := hgw.out.2; have := hig.out; omega) B6.out.size)
  clear kp2 y1 f1 CV KI6 R6 KR6 B6
  generalize (w6.setCell ⟨gi, 1, none⟩ (.int .u16 (s : Int))) = w7 at *
  go_wp2_with fail
  refine (rdNum_any R7.out 200).mono ?_
  rintro e w8 ⟨rfl, kp, R⟩
  have hnl := rNum_le 200 l2 e2
  obtain ⟨m0, l3, e3, hB3⟩ : ∃ x y z, rNum 200 l2 e2 = (x, y, z) := ⟨_, _, _, rfl⟩
  have hdec3 : Hid (headR2 l 0 = ((idR a s, (opsRd m0 l3 e3).1), (opsRd m0 l3 e3).2)) := by
    rw [Hid, hdec2.out]
    unfold bindR
    rw [hB3]
    rfl
  rw [hB3] at hnl R ⊢
  dsimp only at hnl R ⊢
  clear hB3 hdec2
  have R8 := Lib.hid R
  have B8 : Hid (Below w.heap.size w w8) := B7.out.trans (kp.below (fun k e => by rw [e]; exact hgw.out.2) B7.out.size)
  have KR8 := Lib.hid (KR7.out.keep (kp.block gr KR7.out.lt (by have := hrg.out; omega)))
  have KI8 := Lib.hid (KI7.out.keep (kp.block gi KI7.out.lt (by have := hig.out; omega)))
  clear kp R R7 KR7 B7 KI7
  have hgb : Hid (gi < w8.heap.size ∧ g < w8.heap.size ∧ gr < w8.heap.size) := ⟨KI8.out.lt, by have := hig.out; have := KI8.out.lt; omega, KR8.out.lt⟩
  obtain ⟨gb, hgbe⟩ : ∃ gb, gb = w8.heap.size := ⟨_, rfl⟩
  have hgs : Hid (gb ≤ w8.heap.size) := by rw [Hid, hgbe]; omega
  rw [← hgbe] at hgb
  clear hgbe
  go_wp2_with fail
  go_loopw [7, 6] (fun v sl wr => ∃ (m : Nat) (os : List OpV) (l' : List UInt8) (e' : Nat), v = .int .u64 (m : Int) ∧ m + os.length ≤ 200 ∧ Hid (opsRd m0 l3 e3 = (os ++ (opsRd m l' e').1, (opsRd m l' e').2)) ∧ Hid (wr.ownsRow gb 122 8 sl os.length (os.flatMap encO)) ∧ Hid (∀ o ∈ os, OpV.ok o) ∧ Hid (RdAt wr B g l' e') ∧ Hid (Blk wr gr 31 #[.int .u8 0, .int .u16 0, .slice none 0 0, .slice none 0 0]) ∧ Hid (Blk wr gi 27 (encP (idR a s)).toArray) ∧ Hid (Below w.heap.size w wr) ∧ Hid (gb ≤ wr.heap.size)) (fun v _ _ => (intOf v).toNat)
  case atStart => exact ⟨m0, [], l3, e3, rfl, by simpa using hnl, by rw [Hid, List.nil_append], World.ownsRow_nil _ _ _ _, by simp [Hid], R8.out, KR8.out, KI8.out, B8.out, hgs.out⟩
  case round =>
    clear R8 KR8 KI8 B8 hgs
    obtain ⟨m, os, l', e', rfl, hml, HD, O, OK, RD, KR, KI, BW, hgs⟩ := hrel
    have hm0 : (0 : Int) ≤ (m : Int) := by omega
    by_cases hgo : 0 < m ∧ e' = 0
    · obtain ⟨hmp, he⟩ := hgo
      have hmi : (0 : Int) < (m : Int) := by omega
      have hm1 : (1 : Int) ≤ (m : Int) := by omega
      have hmb : (m : Int) ≤ 200 := by omega
      have hz : ((e' : Int) == 0) = true := by rw [he]; rfl
      have HE := Lib.hid (rdErr_any RD.out)
      obtain ⟨m', rfl⟩ : ∃ m', m = m' + 1 := ⟨m - 1, by omega⟩
      have hm2 : ((m' + 1 : Nat) : Int) - 1 = (m' : Int) := by omega
      have HD2 : Hid (opsRd m0 l3 e3 = ((os ++ [(oneRd l' e').1]) ++ (opsRd m' (oneRd l' e').2.1 (oneRd l' e').2.2).1, (opsRd m' (oneRd l' e').2.1 (oneRd l' e').2.2).2)) := by
        rw [Hid, HD.out, he, opsRd_go, List.append_assoc]
        rfl
      have hok := one_ok l' e'
      have HO := Lib.hid (one19_any RD.out)
      obtain ⟨A5, c5, rfl, _, _⟩ := Sl.of_own O.out
      clear HD he
      go_wp2_with fail
      refine HE.out.mono ?_
      rintro e _ ⟨rfl, rfl⟩
      go_wp2_with fail
      refine HO.out.mono ?_
      rintro e w9 ⟨rfl, kp, R⟩
      generalize (oneRd l' e').1 = o at *
      generalize (oneRd l' e').2.1 = l4 at *
      generalize (oneRd l' e').2.2 = e4 at *
      have KR9 := Lib.hid (KR.out.keep (kp.block gr KR.out.lt (by have := hrg.out; omega)))
      have KI9 := Lib.hid (KI.out.keep (kp.block gi KI.out.lt (by have := hig.out; omega)))
      have B9 : Hid (Below w.heap.size w w9) := BW.out.trans (kp.below (fun k e => by rw [e]; exact hgw.out.2) BW.out.size)
      have O9 := Lib.hid (own_keepF O.out fun k e => kp.block k (O.out.lt k e).2 (by have := (O.out.lt k e).1; have := hgb.out.2.1; omega))
      have R9 := Lib.hid R
      have hg9 : gb ≤ w9.heap.size := Nat.le_trans hgs.out kp.size
      clear kp R KR KI BW O RD HE HO
      go_wp2_with (first
        | (refine wpList_lit1 opSl (encO_len o) (by omega) (by rfl) ?_)
        | (at_builtin; refine wpList_push opSl O9.out (encO o) rfl (encO_one o) hg9 (by omega) (by unfold maxLen; omega) (by rfl) (by rfl) (by rfl) ?_; intro v1 w10 own1 bel1))
      have KR10 := Lib.hid (KR9.out.below bel1 hgb.out.2.2)
      have KI10 := Lib.hid (KI9.out.below bel1 hgb.out.1)
      have R10 := Lib.hid (R9.out.below bel1 hgb.out.2.1)
      have B10 : Hid (Below w.heap.size w w10) := B9.out.trans (bel1.mono (by have := hgb.out.2.2; have := hgw.out.1; omega))
      have OK10 : Hid (∀ x ∈ os ++ [o], OpV.ok x) := fun x hx => by
        rcases List.mem_append.1 hx with hx | hx
        · exact OK.out x hx
        · rw [List.mem_singleton.1 hx]; unfold OpV.ok maxLen; omega
      have O10 : Hid (w10.ownsRow gb 122 8 v1 (os ++ [o]).length ((os ++ [o]).flatMap encO)) := by
        rw [Hid, List.flatMap_append, List.length_append]
        simpa using own1
      have hgs10 : Hid (gb ≤ w10.heap.size) := Nat.le_trans hg9 bel1.size
      clear own1 bel1 KR9 KI9 R9 B9 O9 OK
      go_roundw
      case rel => exact ⟨m', os ++ [o], l4, e4, by go_num, by simp; omega, HD2.out, O10.out, OK10.out, R10.out, KR10.out, KI10.out, B10.out, hgs10.out⟩
      case measure => simp [intOf]
    · have HDF : Hid (headR2 l 0 = ((idR a s, os), l', e')) := by
        rw [Hid, hdec3.out, HD.out, opsRd_stop (by omega), List.append_nil]
      have hdP : Hid (decP l = if rEnd l' e' ≠ 0 then (zeroPat, rEnd l' e') else if makeN18 (idR a s) os ≠ 0 then (zeroPat, 4) else (makeV18 (idR a s) os, 0)) := by
        rw [Hid]
        unfold decP
        rw [HDF.out]
      clear HDF HD hdec3
      obtain ⟨A5, c5, rfl, _, _⟩ := Sl.of_own O.out
      have hol : os.length ≤ 200 := by omega
      have OA := Lib.hid (own_opsAt O.out rfl OK.out)
      have HEr := Lib.hid (rdErr_any RD.out)
      have HEn := Lib.hid (rdEnd_any RD.out)
      have hstop := Lib.hid hgo
      obtain ⟨re, hre⟩ : ∃ re, re = rEnd l' e' := ⟨_, rfl⟩
      rw [← hre] at HEn hdP
      clear hre O OK RD hgs hgo
      by_cases hmz : m = 0
      · have hmi : ¬ (0 : Int) < (m : Int) := by omega
        go_wp2_with fail
        refine HEn.out.mono ?_
        rintro e _ ⟨rfl, rfl⟩
        by_cases h1 : re = 0
        · have z0 : ((re : Int) != 0) = false := by rw [h1]; rfl
          have hdP2 : Hid (decP l = if makeN18 (idR a s) os ≠ 0 then (zeroPat, 4) else (makeV18 (idR a s) os, 0)) := by rw [Hid, hdP.out, if_neg (by simpa using h1)]
          replace h1 := Lib.hid h1
          clear hdP
          go_wp2_with (refine wpList_load_row rfl 27 _ (by rfl) gi (by rfl) _ _ _ _ KI.out underPid rfl infoPid ?_)
          refine (make18_far (idR a s) os _ _ _ _ (by omega) OA.out).mono ?_
          rintro e w20 ⟨cs, rfl, pa, b20⟩
          obtain ⟨q, hq⟩ : ∃ q, q = makeV18 (idR a s) os := ⟨_, rfl⟩
          rw [← hq] at pa hdP2
          replace hq := Lib.hid hq
          have pa2 := pa
          obtain ⟨⟨A3, c3, A4, c4, rfl, _⟩, _, _⟩ := pa2
          have hgrw : Hid (gr < wr.heap.size) := KR.out.lt
          have hwwr : Hid (w.heap.size ≤ wr.heap.size) := BW.out.size
          have KR20 := Lib.hid (KR.out.ext b20)
          have B20 := Lib.hid (BW.out.trans (b20.mono BW.out.size))
          have PA := Lib.hid pa
          clear pa b20 KI KR BW OA
          have KZ : Hid (Blk (w20.alloc (.cells #[.int .u8 0, .int .u16 0, .slice none 0 0, .slice none 0 0] 31)) w20.heap.size 31 #[.int .u8 0, .int .u16 0, .slice none 0 0, .slice none 0 0]) := Blk.new _ _ _
          have KQ : Hid (Blk ((w20.alloc (.cells #[.int .u8 0, .int .u16 0, .slice none 0 0, .slice none 0 0] 31)).setRow w20.heap.size (patC q.1 A3 q.2.1.length c3 A4 q.2.2.length c4).toArray) w20.heap.size 31 (patC q.1 A3 q.2.1.length c3 A4 q.2.2.length c4).toArray) := KZ.out.row _
          have BN : Hid (Below w20.heap.size w20 ((w20.alloc (.cells #[.int .u8 0, .int .u16 0, .slice none 0 0, .slice none 0 0] 31)).setRow w20.heap.size (patC q.1 A3 q.2.1.length c3 A4 q.2.2.length c4).toArray)) := below_setRow (below_new w20 _) (Nat.le_refl _) _
          go_upto_region 13 with (first
            | (refine wpList_alloced (allocPat _) ?_)
            | (refine wpList_store_row rfl 31 _ _ (by rfl) w20.heap.size (patC q.1 A3 q.2.1.length c3 A4 q.2.2.length c4).toArray (by rfl) (by rfl) _ _ KZ.out infoPat rfl patC_one ?_))
          generalize ((w20.alloc (.cells #[.int .u8 0, .int .u16 0, .slice none 0 0, .slice none 0 0] 31)).setRow w20.heap.size (patC q.1 A3 q.2.1.length c3 A4 q.2.2.length c4).toArray) = w21 at *
          have KR21 := Lib.hid (KR20.out.ext BN.out)
          have B21 := Lib.hid (B20.out.trans (BN.out.mono B20.out.size))
          have PA21 := Lib.hid (PA.out.ext BN.out)
          clear KZ BN KR20 B20 PA
          generalize w20.heap.size = gq at *
          by_cases hmk : patB (idR a s, depsV (idR a s) os, os) = true
          · have hN : makeN18 (idR a s) os = 0 := by unfold makeN18; rw [if_pos hmk]
            have hdP3 : Hid (decP l = (q, 0)) := by rw [Hid, hdP2.out, if_neg (by simpa using hN)]
            rw [hN]
            clear hdP2 hN hq hmk
            have kp3 : Kept (fun k => k = gr) w21 (w21.setRow gr (patC q.1 A3 q.2.1.length c3 A4 q.2.2.length c4).toArray) := kept_row (fun k => k = gr) w21 rfl _
            go_wp2_with (first
              | (refine wpList_load_row rfl 31 _ (by rfl) gq (by rfl) _ _ _ _ KQ.out underPat rfl infoPat ?_)
              | (refine wpList_store_row rfl 31 _ _ (by rfl) gr (patC q.1 A3 q.2.1.length c3 A4 q.2.2.length c4).toArray (by rfl) (by rfl) _ _ KR21.out infoPat rfl patC_one ?_))
            refine bodyPost_ret (results_row_tmp rfl _ _ gr _ (patC q.1 A3 q.2.1.length c3 A4 q.2.2.length c4).toArray _ rfl (KR21.out.row _) underPat rfl infoPat) rfl ?_
            rw [hdP3.out]
            exact ⟨_, rfl, (PA21.out.stay (kp3.stay fun k _ h1 h2 => by have h1 : wr.heap.size ≤ k := h1; have h2 : k = gr := h2; have := hgrw.out; omega)).mono (fun k h => Nat.le_trans hwwr.out h), B21.out.trans (kp3.below (fun k e => by rw [e]; exact Nat.le_of_eq hgw.out.1.symm) B21.out.size)⟩
          · have hN : makeN18 (idR a s) os = 1 := by unfold makeN18; rw [if_neg hmk]
            have hdP3 : Hid (decP l = (zeroPat, 4)) := by rw [Hid, hdP2.out, if_pos (by rw [hN]; decide)]
            rw [hN]
            clear hdP2 hN hq hmk
            have kp3 : Kept (fun k => k = gr) w21 (w21.setRow gr #[.int .u8 0, .int .u16 0, .slice none 0 0, .slice none 0 0]) := kept_row (fun k => k = gr) w21 rfl _
            go_wp2_with (first
              | (refine wpList_built (buildZero _) (by rfl) ?_)
              | (refine wpList_store_row rfl 31 _ _ (by rfl) gr #[.int .u8 0, .int .u16 0, .slice none 0 0, .slice none 0 0] (by rfl) (by rfl) _ _ KR21.out infoPat rfl zeroC_one ?_))
            refine bodyPost_ret (results_row_tmp rfl _ _ gr _ #[.int .u8 0, .int .u16 0, .slice none 0 0, .slice none 0 0] _ rfl (KR21.out.row _) underPat rfl infoPat) rfl ?_
            rw [hdP3.out]
            exact ⟨_, rfl, zero_in _ _, B21.out.trans (kp3.below (fun k e => by rw [e]; exact Nat.le_of_eq hgw.out.1.symm) B21.out.size)⟩
        · have z0 : ((re : Int) != 0) = true := by rw [bne_iff_ne]; omega
          have hdP3 : Hid (decP l = (zeroPat, re)) := by rw [Hid, hdP.out, if_pos h1]
          clear hdP
          have kp3 : Kept (fun k => k = gr) wr (wr.setRow gr #[.int .u8 0, .int .u16 0, .slice none 0 0, .slice none 0 0]) := kept_row (fun k => k = gr) wr rfl _
          go_wp2_with (first
            | (refine wpList_built (buildZero _) (by rfl) ?_)
            | (refine wpList_store_row rfl 31 _ _ (by rfl) gr #[.int .u8 0, .int .u16 0, .slice none 0 0, .slice none 0 0] (by rfl) (by rfl) _ _ KR.out infoPat rfl zeroC_one ?_))
          refine bodyPost_ret (results_row_tmp rfl _ _ gr _ #[.int .u8 0, .int .u16 0, .slice none 0 0, .slice none 0 0] _ rfl (KR.out.row _) underPat rfl infoPat) rfl ?_
          rw [hdP3.out]
          exact ⟨_, rfl, zero_in _ _, BW.out.trans (kp3.below (fun k e => by rw [e]; exact Nat.le_of_eq hgw.out.1.symm) BW.out.size)⟩
      · have hmi : (0 : Int) < (m : Int) := by omega
        have hez : ((e' : Int) == 0) = false := by rw [beq_eq_false_iff_ne]; have := hstop.out; omega
        go_wp2_with fail
        refine HEr.out.mono ?_
        rintro e _ ⟨rfl, rfl⟩
        go_wp2_with fail
        refine HEn.out.mono ?_
        rintro e _ ⟨rfl, rfl⟩
        by_cases h1 : re = 0
        · have z0 : ((re : Int) != 0) = false := by rw [h1]; rfl
          have hdP2 : Hid (decP l = if makeN18 (idR a s) os ≠ 0 then (zeroPat, 4) else (makeV18 (idR a s) os, 0)) := by rw [Hid, hdP.out, if_neg (by simpa using h1)]
          replace h1 := Lib.hid h1
          clear hdP
          go_wp2_with (refine wpList_load_row rfl 27 _ (by rfl) gi (by rfl) _ _ _ _ KI.out underPid rfl infoPid ?_)
          refine (make18_far (idR a s) os _ _ _ _ (by omega) OA.out).mono ?_
          rintro e w20 ⟨cs, rfl, pa, b20⟩
          obtain ⟨q, hq⟩ : ∃ q, q = makeV18 (idR a s) os := ⟨_, rfl⟩
          rw [← hq] at pa hdP2
          replace hq := Lib.hid hq
          have pa2 := pa
          obtain ⟨⟨A3, c3, A4, c4, rfl, _⟩, _, _⟩ := pa2
          have hgrw : Hid (gr < wr.heap.size) := KR.out.lt
          have hwwr : Hid (w.heap.size ≤ wr.heap.size) := BW.out.size
          have KR20 := Lib.hid (KR.out.ext b20)
          have B20 := Lib.hid (BW.out.trans (b20.mono BW.out.size))
          have PA := Lib.hid pa
          clear pa b20 KI KR BW OA
          have KZ : Hid (Blk (w20.alloc (.cells #[.int .u8 0, .int .u16 0, .slice none 0 0, .slice none 0 0] 31)) w20.heap.size 31 #[.int .u8 0, .int .u16 0, .slice none 0 0, .slice none 0 0]) := Blk.new _ _ _
          have KQ : Hid (Blk ((w20.alloc (.cells #[.int .u8 0, .int .u16 0, .slice none 0 0, .slice none 0 0] 31)).setRow w20.heap.size (patC q.1 A3 q.2.1.length c3 A4 q.2.2.length c4).toArray) w20.heap.size 31 (patC q.1 A3 q.2.1.length c3 A4 q.2.2.length c4).toArray) := KZ.out.row _
          have BN : Hid (Below w20.heap.size w20 ((w20.alloc (.cells #[.int .u8 0, .int .u16 0, .slice none 0 0, .slice none 0 0] 31)).setRow w20.heap.size (patC q.1 A3 q.2.1.length c3 A4 q.2.2.length c4).toArray)) := below_setRow (below_new w20 _) (Nat.le_refl _) _
          go_upto_region 13 with (first
            | (refine wpList_alloced (allocPat _) ?_)
            | (refine wpList_store_row rfl 31 _ _ (by rfl) w20.heap.size (patC q.1 A3 q.2.1.length c3 A4 q.2.2.length c4).toArray (by rfl) (by rfl) _ _ KZ.out infoPat rfl patC_one ?_))
          generalize ((w20.alloc (.cells #[.int .u8 0, .int .u16 0, .slice none 0 0, .slice none 0 0] 31)).setRow w20.heap.size (patC q.1 A3 q.2.1.length c3 A4 q.2.2.length c4).toArray) = w21 at *
          have KR21 := Lib.hid (KR20.out.ext BN.out)
          have B21 := Lib.hid (B20.out.trans (BN.out.mono B20.out.size))
          have PA21 := Lib.hid (PA.out.ext BN.out)
          clear KZ BN KR20 B20 PA
          generalize w20.heap.size = gq at *
          by_cases hmk : patB (idR a s, depsV (idR a s) os, os) = true
          · have hN : makeN18 (idR a s) os = 0 := by unfold makeN18; rw [if_pos hmk]
            have hdP3 : Hid (decP l = (q, 0)) := by rw [Hid, hdP2.out, if_neg (by simpa using hN)]
            rw [hN]
            clear hdP2 hN hq hmk
            have kp3 : Kept (fun k => k = gr) w21 (w21.setRow gr (patC q.1 A3 q.2.1.length c3 A4 q.2.2.length c4).toArray) := kept_row (fun k => k = gr) w21 rfl _
            go_wp2_with (first
              | (refine wpList_load_row rfl 31 _ (by rfl) gq (by rfl) _ _ _ _ KQ.out underPat rfl infoPat ?_)
              | (refine wpList_store_row rfl 31 _ _ (by rfl) gr (patC q.1 A3 q.2.1.length c3 A4 q.2.2.length c4).toArray (by rfl) (by rfl) _ _ KR21.out infoPat rfl patC_one ?_))
            refine bodyPost_ret (results_row_tmp rfl _ _ gr _ (patC q.1 A3 q.2.1.length c3 A4 q.2.2.length c4).toArray _ rfl (KR21.out.row _) underPat rfl infoPat) rfl ?_
            rw [hdP3.out]
            exact ⟨_, rfl, (PA21.out.stay (kp3.stay fun k _ h1 h2 => by have h1 : wr.heap.size ≤ k := h1; have h2 : k = gr := h2; have := hgrw.out; omega)).mono (fun k h => Nat.le_trans hwwr.out h), B21.out.trans (kp3.below (fun k e => by rw [e]; exact Nat.le_of_eq hgw.out.1.symm) B21.out.size)⟩
          · have hN : makeN18 (idR a s) os = 1 := by unfold makeN18; rw [if_neg hmk]
            have hdP3 : Hid (decP l = (zeroPat, 4)) := by rw [Hid, hdP2.out, if_pos (by rw [hN]; decide)]
            rw [hN]
            clear hdP2 hN hq hmk
            have kp3 : Kept (fun k => k = gr) w21 (w21.setRow gr #[.int .u8 0, .int .u16 0, .slice none 0 0, .slice none 0 0]) := kept_row (fun k => k = gr) w21 rfl _
            go_wp2_with (first
              | (refine wpList_built (buildZero _) (by rfl) ?_)
              | (refine wpList_store_row rfl 31 _ _ (by rfl) gr #[.int .u8 0, .int .u16 0, .slice none 0 0, .slice none 0 0] (by rfl) (by rfl) _ _ KR21.out infoPat rfl zeroC_one ?_))
            refine bodyPost_ret (results_row_tmp rfl _ _ gr _ #[.int .u8 0, .int .u16 0, .slice none 0 0, .slice none 0 0] _ rfl (KR21.out.row _) underPat rfl infoPat) rfl ?_
            rw [hdP3.out]
            exact ⟨_, rfl, zero_in _ _, B21.out.trans (kp3.below (fun k e => by rw [e]; exact Nat.le_of_eq hgw.out.1.symm) B21.out.size)⟩
        · have z0 : ((re : Int) != 0) = true := by rw [bne_iff_ne]; omega
          have hdP3 : Hid (decP l = (zeroPat, re)) := by rw [Hid, hdP.out, if_pos h1]
          clear hdP
          have kp3 : Kept (fun k => k = gr) wr (wr.setRow gr #[.int .u8 0, .int .u16 0, .slice none 0 0, .slice none 0 0]) := kept_row (fun k => k = gr) wr rfl _
          go_wp2_with (first
            | (refine wpList_built (buildZero _) (by rfl) ?_)
            | (refine wpList_store_row rfl 31 _ _ (by rfl) gr #[.int .u8 0, .int .u16 0, .slice none 0 0, .slice none 0 0] (by rfl) (by rfl) _ _ KR.out infoPat rfl zeroC_one ?_))
          refine bodyPost_ret (results_row_tmp rfl _ _ gr _ #[.int .u8 0, .int .u16 0, .slice none 0 0, .slice none 0 0] _ rfl (KR.out.row _) underPat rfl infoPat) rfl ?_
          rw [hdP3.out]
          exact ⟨_, rfl, zero_in _ _, BW.out.trans (kp3.below (fun k e => by rw [e]; exact Nat.le_of_eq hgw.out.1.symm) BW.out.size)⟩
end Go.Proofs.YtihggkmjalofiaaGreatDoor

/- Patches are read: walked. -/
namespace Go.Proofs.YtihggkmjalofiaaGreatDoor
open Go.RowKit

theorem wpList_convW {P : Program} {ops : Array Oper} {rest : List Oper} {a : Act} {w w' : World} {Q : Exit → Act → World → Prop} {d : Option Tmp} {ty s t : TypeId} {pos : String} {after : Array Edge} {x : Operand} {xv v : Value} (hx : a.eval x = xv) (hr : (convert s t xv).run P w = .ok v w')
    (h : wpList P ops Q rest (a.put d v) w') : wpList P ops Q (⟨d, .convert s t x, ty, pos, after, none⟩ :: rest) a w :=
  wpList_plain rfl fun _ hK => by
    unfold Oper.wp execOp
    simp only [hx, Sem.run_bind, hr, Result.andThen_ok, Sem.run_pure]
    exact hK _ _ h
theorem conv_bytes (w : World) (s : ByteArray) : (convert 9 46 (.string s)).run Tryz.prog w = .ok (.slice (some ⟨w.heap.size, 0, none⟩) s.size (grownCap w s.size 0 5)) (Lib.bytesWorld w 5 s) :=
  Lib.run_convert_string_bytes w 9 46 5 s (u := .string) (by kernel_rfl) (by kernel_rfl) (by kernel_rfl)
theorem conv_below (w : World) (s : ByteArray) : Below w.heap.size w (Lib.bytesWorld w 5 s) :=
  ⟨rfl, rfl, rfl, by rw [Lib.bytesWorld_size]; omega, fun k hk => Lib.bytesWorld_at_old w _ s k hk⟩
theorem conv_at (w : World) (t : List UInt8) (ht : t.length ≤ 100000) : BytesAt (Lib.bytesWorld w 5 (bytesOf t)) (some ⟨w.heap.size, 0, none⟩) t.length (grownCap w t.length 0 5) t := by
  have hs : (bytesOf t).size = t.length := by show (bytesOf t).data.size = _; simp [bytesOf]
  refine ⟨rfl, grownCap_ge w _ _ _, grownCap_le_maxLen w _ _ _ (by unfold maxLen; omega), ?_, fun _ => ⟨w.heap.size, 0, rfl, by rw [Lib.bytesWorld_size]; omega, fun j hj => ?_⟩⟩
  · simp [encB_len]
  · rw [Nat.mul_one] at hj
    rw [Nat.zero_add, Lib.bytesWorld_cell w _ _ j (by rw [hs]; exact hj), encB_at, List.getElem?_eq_getElem hj]
    have e : (bytesOf t).data.toList = t := by simp [bytesOf]
    rw [e, List.getD_eq_getElem?_getD, List.getElem?_eq_getElem hj]
    rfl
theorem PatIn.lt {w : World} {G : Nat → Prop} {r : List Value} {p : PatV} (h : PatIn w G r p) : PatIn w (fun k => G k ∧ k < w.heap.size) r p := by
  obtain ⟨⟨A, c, A', c', e, h1, h2, i1, i2⟩, h3, h4⟩ := h
  refine ⟨⟨A, c, A', c', e, h1, h2, ?_, ?_⟩, h3, h4⟩
  · intro hn b o ea
    obtain ⟨b', o', e', hb, _⟩ := h1.sl.2 hn
    rw [ea] at e'; injection e' with e'; injection e' with e1 _
    exact ⟨i1 hn b o ea, by rw [e1]; exact hb⟩
  · intro hn b o ea
    obtain ⟨b', o', e', hb, _⟩ := h2.sl.2 hn
    rw [ea] at e'; injection e' with e'; injection e' with e1 _
    exact ⟨i2 hn b o ea, by rw [e1]; exact hb⟩
theorem patsRd_stop {n e : Nat} {l : List UInt8} (h : n = 0 ∨ e ≠ 0) : patsRd n l e = ([], l, e) := by
  cases n with
  | zero => rfl
  | succ n =>
    unfold patsRd
    rw [if_pos (h.elim (fun h => by omega) id)]
theorem patsRd_go {n : Nat} {l : List UInt8} : patsRd (n + 1) l 0 = ((patRd l 0).1 :: (patsRd n (patRd l 0).2.1 (patRd l 0).2.2).1, (patsRd n (patRd l 0).2.1 (patRd l 0).2.2).2) := rfl
end Go.Proofs.YtihggkmjalofiaaGreatDoor

/- The patches of a piece are read: walked. -/
namespace Go.Proofs.YtihggkmjalofiaaGreatDoor
open Go.RowKit

/-- what a piece tells, or what is wrong with it -/
def ReadRet (w : World) (l : List UInt8) (en : Ending) (w' : World) : Prop :=
  Below w.heap.size w w' ∧ ∃ (A : Option Addr) (m c : Nat), en = .returned (.tuple #[.slice A m c, .int .i64 (((readI l).2 : Nat) : Int)]) ∧ ((readI l).2 = 0 → m = (readI l).1.length ∧ OwnC w.heap.size w' (.slice A m c) (readI l).1)
def psRdI (M : Nat) : Rd (List PatV) := bindR (rNum M) patsRd
theorem readRet_of {w w1 w' : World} {l l' : List UInt8} {ps : List PatV} {e e0 : Nat} {A : Option Addr} {m c : Nat} (hb : Below w.heap.size w w1) (hg : ∀ k, k = w.heap.size → w.heap.size ≤ k) (hk : Kept (fun k => k = w.heap.size) w1 w') (hr : imgRd l.length l 0 = (ps, l', e)) (he : e0 = rEnd l' e)
    (ho : rEnd l' e = 0 → m = ps.length ∧ OwnC w1.heap.size w' (.slice A m c) ps) : ReadRet w l (.returned (.tuple #[.slice A m c, .int .i64 ((e0 : Nat) : Int)])) w' := by
  have h1 : (readI l).2 = rEnd l' e := by
    unfold readI
    rw [hr]
    dsimp only
    split
    · rename_i h; exact h.symm
    · rfl
  refine ⟨hb.trans (hk.below hg hb.size), A, m, c, by rw [h1, he], fun h => ?_⟩
  rw [h1] at h
  have h2 : (readI l).1 = ps := by
    unfold readI
    rw [hr]
    dsimp only
    rw [if_pos h]
  obtain ⟨a, b⟩ := ho h
  rw [h2]
  exact ⟨a, b.mono hb.size⟩
set_option maxRecDepth 100000 in
set_option maxHeartbeats 8000000 in
theorem read53_any (l : List UInt8) (w0 : World) (A0 : Option Addr) (m0 c0 : Nat) (hb0 : BytesAt w0 A0 m0 c0 l) (hl0 : l.length ≤ 90000) : Calls Tryz.prog 94 #[.slice A0 m0 c0] w0 (ReadRet w0 l) := by
  have HOP := Lib.hid (rdOpen_any l w0 A0 m0 c0 hb0)
  have hml : m0 = l.length := hb0.len.symm
  subst hml
  have CV := Lib.hid (fun u => convI64 (k := l.length) (by omega) u)
  clear hb0
  go_enter Tryz.func94, Tryz.ntmps94
  go_wp2_with fail
  refine HOP.out.mono ?_
  rintro e w ⟨g, rfl, hR, hb, hg0⟩
  have H := Lib.hid hR
  have HB0 := Lib.hid hb
  have hgw : Hid (∀ k, k = w0.heap.size → w0.heap.size ≤ k) := fun k e => by omega
  have hg : g < w.heap.size := by obtain ⟨_, _, h1, _⟩ := hR.ex; exact h1.lt
  have hBg := hR.ge
  obtain ⟨M, hM⟩ : ∃ M, M = l.length := ⟨_, rfl⟩
  have e0z : Hid (imgRd l.length l 0 = psRdI M l 0) := by rw [hM]; rfl
  rw [← hM] at hl0 CV ⊢
  replace hM := Lib.hid hM
  obtain ⟨B, hBe⟩ : ∃ B, B = w0.heap.size := ⟨_, rfl⟩
  rw [← hBe] at H hBg
  replace hBe := Lib.hid hBe
  replace hg0 := Lib.hid hg0
  clear hR hb HOP
  go_wp2_with ((with_reducible refine wpList_convB ?_ (CV.out _) ?_); rfl)
  refine (rdNum_any H.out M).mono ?_
  rintro e w3 ⟨rfl, kp, R⟩
  have hnl := rNum_le M l 0
  obtain ⟨n0, l1, e1, hB1⟩ : ∃ x y z, rNum M l 0 = (x, y, z) := ⟨_, _, _, rfl⟩
  have hrd : Hid (psRdI M l 0 = patsRd n0 l1 e1) := by
    rw [Hid]
    unfold psRdI bindR
    rw [hB1]
  rw [hB1] at hnl R ⊢
  dsimp only at hnl R ⊢
  clear hB1
  have R3 := Lib.hid R
  have KW3 : Hid (Kept (fun k => k = g) w w3) := kp
  clear kp R H
  go_wp2_with fail
  go_loopw [5, 6] (fun ov nv wr => ∃ (n : Nat) (ps : List PatV) (l' : List UInt8) (e' : Nat), nv = .int .u64 ((n : Nat) : Int) ∧ n + ps.length ≤ M ∧ Hid (patsRd n0 l1 e1 = (ps ++ (patsRd n l' e').1, (patsRd n l' e').2)) ∧ Hid (OwnC w.heap.size wr ov ps) ∧ Hid (RdAt wr B g l' e') ∧ Hid (Kept (fun k => k = g) w wr)) (fun _ nv _ => (intOf nv).toNat)
  case atStart => exact ⟨n0, [], l1, e1, rfl, by simpa using hnl, rfl, OwnC.nil _ _, R3.out, KW3.out⟩
  case round =>
    clear R3 KW3
    obtain ⟨n, ps, l', e', rfl, hn, HD, O, RD, KW⟩ := hrel
    have hn0 : (0 : Int) ≤ (n : Int) := by omega
    have HE := Lib.hid (rdErr_any RD.out)
    obtain ⟨A5, c5, rfl, _⟩ := O.out.slice
    by_cases hgo : 0 < n ∧ e' = 0
    · obtain ⟨hnp, he⟩ := hgo
      have hmi : (0 : Int) < (n : Int) := by omega
      have hm1 : (1 : Int) ≤ (n : Int) := by omega
      have hmb : (n : Int) ≤ 100000 := by omega
      have hz : ((e' : Int) == 0) = true := by rw [he]; rfl
      obtain ⟨m, rfl⟩ : ∃ m, n = m + 1 := ⟨n - 1, by omega⟩
      have hm2 : ((m + 1 : Nat) : Int) - 1 = (m : Int) := by omega
      have hpr : Hid (patRd l' e' = if (rText 65536 l' e').2.2 ≠ 0 then (zeroPat, (rText 65536 l' e').2.1, (rText 65536 l' e').2.2) else ((decP (rText 65536 l' e').1).1, (rText 65536 l' e').2.1, (decP (rText 65536 l' e').1).2)) := rfl
      have HDS : Hid (patsRd n0 l1 e1 = ((ps ++ [(patRd l' e').1]) ++ (patsRd m (patRd l' e').2.1 (patRd l' e').2.2).1, (patsRd m (patRd l' e').2.1 (patRd l' e').2.2).2)) := by
        rw [Hid, HD.out]
        subst he
        rw [patsRd_go, List.append_assoc]
        rfl
      have htl := rText_len 65536 l' e'
      have HT := Lib.hid (rdText_any RD.out 65536 (by omega))
      clear HD he
      go_wp2_with fail
      refine HE.out.mono ?_
      rintro e _ ⟨rfl, rfl⟩
      go_wp2_with fail
      refine HT.out.mono ?_
      rintro e w4 ⟨rfl, kp, R⟩
      obtain ⟨t, l2, e2, hB1⟩ : ∃ x y z, rText 65536 l' e' = (x, y, z) := ⟨_, _, _, rfl⟩
      rw [hB1] at htl R hpr ⊢
      dsimp only at htl R hpr ⊢
      clear hB1 HT HE
      have R4 := Lib.hid R
      have KW4 : Hid (Kept (fun k => k = g) w w4) := KW.out.trans kp fun _ e => .inl e
      have O4 := Lib.hid (O.out.stay (kp.stay fun k _ h1 h2 => by have h1 : w.heap.size ≤ k := h1; have h2 : k = g := h2; omega))
      clear kp R RD KW O
      have HE4 := Lib.hid (rdErr_any R4.out)
      go_wp2_with fail
      refine HE4.out.mono ?_
      rintro e _ ⟨rfl, rfl⟩
      clear HE4
      rcases Nat.eq_zero_or_pos e2 with h2 | h2
      · have z2 : ((e2 : Int) != 0) = false := by rw [h2]; rfl
        rw [if_neg (by simpa using h2)] at hpr
        rw [hpr.out] at HDS
        clear hpr
        have CB := Lib.hid (conv_bytes w4 (bytesOf t))
        have hts : (bytesOf t).size = t.length := by show (bytesOf t).data.size = _; simp [bytesOf]
        rw [hts] at CB
        have BA := Lib.hid (conv_at w4 t (by omega))
        have bn := Lib.hid (conv_below w4 (bytesOf t))
        have R5 := Lib.hid (R4.out.ext bn.out)
        have KW5 : Hid (Kept (fun k => k = g) w (Lib.bytesWorld w4 5 (bytesOf t))) := KW4.out.then bn.out
        have O5 := Lib.hid (O4.out.ext bn.out)
        clear bn R4 KW4 O4 hts
        generalize (Lib.bytesWorld w4 5 (bytesOf t)) = w5 at *
        generalize grownCap w4 t.length 0 5 = c0 at *
        generalize w4.heap.size = gt at *
        have HDC := Lib.hid (decode19_far t w5 _ _ _ BA.out)
        go_wp2_with (refine wpList_convW rfl CB.out ?_)
        refine HDC.out.mono ?_
        rintro e w6 ⟨cs, rfl, pa, b6⟩
        have pa2 := pa.lt
        obtain ⟨⟨A3, c3, A4, c4, rfl, _⟩, _, _⟩ := pa
        obtain ⟨q, er, hq⟩ : ∃ q er, decP t = (q, er) := ⟨_, _, rfl⟩
        rw [hq] at pa2 HDS ⊢
        dsimp only at pa2 HDS ⊢
        have hw5 : Hid (w.heap.size ≤ w5.heap.size) := KW5.out.size
        have hsl : Hid (∀ k, (Value.slice A5 ps.length c5).ownBlock = some k → k < w5.heap.size) := by
          obtain ⟨rows5, D5, own5, _⟩ := O5.out
          exact fun k e => (own5.lt k e).2
        have R6 := Lib.hid (R5.out.ext b6)
        have KW6 : Hid (Kept (fun k => k = g) w w6) := KW5.out.then b6
        have O6 := Lib.hid (O5.out.ext b6)
        have PA := Lib.hid pa2
        have hcs := Lib.hid pa2.len4
        clear pa2 b6 R5 KW5 O5 HDC CB BA hq
        have KZ : Hid (Blk (w6.alloc (.cells #[.int .u8 0, .int .u16 0, .slice none 0 0, .slice none 0 0] 31)) w6.heap.size 31 #[.int .u8 0, .int .u16 0, .slice none 0 0, .slice none 0 0]) := Blk.new _ _ _
        obtain ⟨CS, hCS⟩ : ∃ CS, CS = patC q.1 A3 q.2.1.length c3 A4 q.2.2.length c4 := ⟨_, rfl⟩
        rw [← hCS] at PA hcs ⊢
        have HI : Hid ((Tryz.prog.info? 31).map (·.size) = some CS.toArray.size) := by rw [Hid, hCS]; exact infoPat
        have HO : Hid (CS.toArray.all (·.oneCell') = true) := by rw [Hid, hCS]; exact patC_one
        have KQ : Hid (Blk ((w6.alloc (.cells #[.int .u8 0, .int .u16 0, .slice none 0 0, .slice none 0 0] 31)).setRow w6.heap.size CS.toArray) w6.heap.size 31 CS.toArray) := KZ.out.row _
        have BN : Hid (Below w6.heap.size w6 ((w6.alloc (.cells #[.int .u8 0, .int .u16 0, .slice none 0 0, .slice none 0 0] 31)).setRow w6.heap.size CS.toArray)) := below_setRow (below_new w6 _) (Nat.le_refl _) _
        clear hCS
        go_upto_region 9 with (first
          | (refine wpList_alloced (allocPat _) ?_)
          | (refine wpList_store_row rfl 31 _ _ (by rfl) w6.heap.size CS.toArray (by rfl) (by rfl) _ _ KZ.out HI.out (by simp only [List.size_toArray, hcs.out]; rfl) HO.out ?_))
        generalize ((w6.alloc (.cells #[.int .u8 0, .int .u16 0, .slice none 0 0, .slice none 0 0] 31)).setRow w6.heap.size CS.toArray) = w7 at *
        have R7 := Lib.hid (R6.out.ext BN.out)
        have KW7 : Hid (Kept (fun k => k = g) w w7) := KW6.out.then BN.out
        have O7 := Lib.hid (O6.out.ext BN.out)
        have PN : Hid (PatIn w7 (fun k => w5.heap.size ≤ k ∧ k < w7.heap.size) CS q) := (PA.out.ext BN.out).mono fun k h => ⟨h.1, Nat.lt_of_lt_of_le h.2 BN.out.size⟩
        have hOB : Hid (w.heap.size ≤ w7.heap.size) := KW7.out.size
        clear BN KZ PA R6 KW6 O6
        generalize w6.heap.size = gq at *
        rcases Nat.eq_zero_or_pos er with he | he
        · have zer : ((er : Int) != 0) = false := by rw [he]; rfl
          replace he := Lib.hid he
          obtain ⟨rows, D, own, ri, hdd⟩ := O7.out
          have own := Lib.hid own
          have RI := Lib.hid ri
          have HDD := Lib.hid hdd
          clear O7 ri hdd
          go_wp2_with (first
            | (refine wpList_load_row rfl 31 _ (by rfl) gq (by rfl) _ _ _ _ KQ.out underPat rfl HI.out ?_)
            | (refine wpList_lit1 patSl hcs.out (by omega) (by rfl) ?_)
            | (at_builtin; refine wpList_pushF patSl own.out CS hcs.out PN.out.one hOB.out (by omega) (by unfold maxLen; omega) (by rfl) (by rfl) (by rfl) ?_; intro v8 w8 own8 kep8 new8))
          have O8 := Lib.hid (OwnC.push own8 kep8 new8 RI.out HDD.out PN.out hw5.out hsl.out)
          have b8 := kep8.below (B := w.heap.size) (fun k e => (own.out.lt k e).1) hOB.out
          have R8 := Lib.hid (R7.out.below b8 hg)
          have KW8 : Hid (Kept (fun k => k = g) w w8) := KW7.out.trans kep8 fun x e => .inr (own.out.lt x e).1
          clear own8 kep8 new8 b8 own RI HDD
          go_roundw
          case rel => exact ⟨m, ps ++ [q], l2, er, by go_num, by rw [List.length_append]; show m + (ps.length + 1) ≤ M; omega, HDS.out, O8.out, by rw [he.out]; rw [h2] at R8; exact R8.out, KW8.out⟩
          case measure => simp [intOf]
        · have zer : ((er : Int) != 0) = true := by rw [bne_iff_ne]; omega
          have hs2 : patsRd m l2 er = ([], l2, er) := patsRd_stop (.inr (by omega))
          rw [hs2] at HDS
          have HF : Hid (psRdI M l 0 = (ps ++ [q] ++ [], l2, er)) := by rw [Hid, hrd.out]; exact HDS.out
          replace he : Hid (er ≠ 0) := by rw [Hid]; omega
          clear hs2 HDS
          go_wp2
          refine bodyPost_ret (v := .tuple #[.slice none 0 0, .int .i64 (er : Int)]) ?_ rfl ?_
          · simp [results, Tryz.results94, go_sem]
          · have hre : rEnd l2 er = er := by unfold rEnd; rw [if_neg (fun h => he.out h.1)]
            exact readRet_of HB0.out hgw.out (hg0.out ▸ KW7.out) (e0z.out.trans HF.out) hre.symm fun h => absurd (hre.symm.trans h) he.out
      · have z2 : ((e2 : Int) != 0) = true := by rw [bne_iff_ne]; omega
        rw [if_pos (by omega)] at hpr
        have hs2 : patsRd m l2 e2 = ([], l2, e2) := patsRd_stop (.inr (by omega))
        rw [hpr.out] at HDS
        dsimp only at HDS
        rw [hs2] at HDS
        clear hs2
        have HF : Hid (psRdI M l 0 = (ps ++ [zeroPat] ++ [], l2, e2)) := by rw [Hid, hrd.out]; exact HDS.out
        replace h2 : Hid (e2 ≠ 0) := by rw [Hid]; omega
        clear hpr HDS
        have HEN := Lib.hid (rdEnd_any R4.out)
        go_wp2_with fail
        refine HEN.out.mono ?_
        rintro e _ ⟨rfl, rfl⟩
        go_wp2
        have hre : rEnd l2 e2 = e2 := by unfold rEnd; rw [if_neg (fun h => h2.out h.1)]
        refine bodyPost_ret (v := .tuple #[.slice A5 ps.length c5, .int .i64 ((rEnd l2 e2 : Nat) : Int)]) ?_ rfl ?_
        · simp [results, Tryz.results94, go_sem]
        · exact readRet_of HB0.out hgw.out (hg0.out ▸ KW4.out) (e0z.out.trans HF.out) rfl fun h => absurd (hre.symm.trans h) h2.out
    · have hps : patsRd n l' e' = ([], l', e') := patsRd_stop (by omega)
      have HF : Hid (psRdI M l 0 = (ps, l', e')) := by rw [Hid, hrd.out, HD.out, hps, List.append_nil]
      clear hps HD
      by_cases hmz : n = 0
      · have hmi : ¬ (0 : Int) < (n : Int) := by omega
        clear hgo
        have HEN := Lib.hid (rdEnd_any RD.out)
        go_wp2_with fail
        refine HEN.out.mono ?_
        rintro e _ ⟨rfl, rfl⟩
        go_wp2
        refine bodyPost_ret (v := .tuple #[.slice A5 ps.length c5, .int .i64 ((rEnd l' e' : Nat) : Int)]) ?_ rfl ?_
        · simp [results, Tryz.results94, go_sem]
        · exact readRet_of HB0.out hgw.out (hg0.out ▸ KW.out) (e0z.out.trans HF.out) rfl fun _ => ⟨rfl, O.out⟩
      · have hmi : (0 : Int) < (n : Int) := by omega
        have hz : ((e' : Int) == 0) = false := by rw [beq_eq_false_iff_ne]; omega
        clear hgo hmz
        go_wp2_with fail
        refine HE.out.mono ?_
        rintro e _ ⟨rfl, rfl⟩
        have HEN := Lib.hid (rdEnd_any RD.out)
        go_wp2_with fail
        refine HEN.out.mono ?_
        rintro e _ ⟨rfl, rfl⟩
        go_wp2
        refine bodyPost_ret (v := .tuple #[.slice A5 ps.length c5, .int .i64 ((rEnd l' e' : Nat) : Int)]) ?_ rfl ?_
        · simp [results, Tryz.results94, go_sem]
        · exact readRet_of HB0.out hgw.out (hg0.out ▸ KW.out) (e0z.out.trans HF.out) rfl fun _ => ⟨rfl, O.out⟩
end Go.Proofs.YtihggkmjalofiaaGreatDoor
