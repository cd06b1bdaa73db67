/- The chapter's example of a graph: walked. -/
import Derived.Test.YtfnhmbflmifhcaaGreatGrl
import Derived.Test.YtfnhmbflmifhcaaGreatGri
import Derived.Test.YtfnhmbflmifhcaaGreatGrh
import Derived.Test.YtfnhmbflmifhcaaGreatPaws
import Derived.Test.YtfnhmbflmifhcaaGreatLits
namespace Go.Proofs.YtfnhmbflmifhcaaGreat
open Go.RowKit

def w20id : PidV := (1, 1)
def w20a : OpV := (1, vid0, vid0, ByteArray.empty)
def w20b : OpV := (3, vidOf w20id 0, vid0, ⟨#[120]⟩)
def w20c : OpV := (3, vidOf w20id 0, vid0, ByteArray.empty)
def w20d : OpV := (4, vidOf w20id 1, vidOf w20id 2, ByteArray.empty)
def w20l : List OpV := [w20a, w20b, w20c, w20d]
def w20p : PatV := (w20id, [], w20l)
theorem w20_made : makeV18 w20id w20l = w20p ∧ makeN18 w20id w20l = 0 := ⟨by kernel_rfl, by kernel_rfl⟩
theorem w20_e : grE [] w20p = 0 ∧ grL [] w20p = [w20p] ∧ grE [w20p] w20p = 7 := ⟨by kernel_rfl, by kernel_rfl, by kernel_rfl⟩
theorem w20_verts : (vertsL [w20p]).length = 3 := by kernel_rfl
theorem w20_edges : (edgesL [w20p]).length = 1 := by kernel_rfl
theorem w20_files : (filesL [w20p]).length = 1 := by kernel_rfl
theorem w20_ops (w : World) : OpsAt (w.alloc (.cells [encO w20a, encO w20b, encO w20c, encO w20d].flatten.toArray 110)) (some ⟨w.heap.size, 0, none⟩) 4 w20l := ops_new w w20l (by simp [OpV.ok, w20l, w20a, w20b, w20c, w20d, maxLen]; decide)
theorem build_w20a (w : World) : (Instr.build 110 #[(0, .int .u8 1)]).run Tryz.prog w = .ok (.agg (encO w20a).toArray) w := by kernel_rfl
theorem build_w20b (w : World) : (Instr.build 110 #[(0, .int .u8 3), (1, .agg (encV (vidOf w20id 0)).toArray), (3, .string ⟨#[120]⟩)]).run Tryz.prog w = .ok (.agg (encO w20b).toArray) w := by kernel_rfl
theorem build_w20c (w : World) : (Instr.build 110 #[(0, .int .u8 3), (1, .agg (encV (vidOf w20id 0)).toArray)]).run Tryz.prog w = .ok (.agg (encO w20c).toArray) w := by kernel_rfl
theorem build_w20d (w : World) : (Instr.build 110 #[(0, .int .u8 4), (1, .agg (encV (vidOf w20id 1)).toArray), (2, .agg (encV (vidOf w20id 2)).toArray)]).run Tryz.prog w = .ok (.agg (encO w20d).toArray) w := by kernel_rfl
/-- a patch's operations (32 cells) do not lie in a block of four -/
theorem w20_kept {w : World} {g : Nat} {t : TypeId} {z : Array Value} {r : List Value} (K : Blk w g t z) (hz : z.size = 4) (h : PatAt w r w20p) (cs : Array Value) : PatAt (w.setRow g cs) r w20p := by
  obtain ⟨⟨A, c, A', c', rfl, P, O1, O2, O3⟩, m1, m2⟩ := h
  refine ⟨⟨A, c, A', c', rfl, ⟨P.1, P.2.1, fun h => absurd h (by decide)⟩, O1, ⟨O2.1, fun hn => ?_⟩, O3⟩, m1, m2⟩
  obtain ⟨b, o, e, hb, R⟩ := O2.2 hn
  have hne : b ≠ g := fun hbg => by
    subst hbg
    have h31 := (R 31 (by decide)).symm.trans (K.cell (o + 31))
    rw [Array.getElem?_eq_none (by omega)] at h31
    have h : ((w20p.2.2.flatMap encO)[31]?).isSome = true := by kernel_rfl
    rw [h31] at h
    cases h
  exact ⟨b, o, e, by simpa using hb, fun j hj => (World.cell?_of_block (a := ⟨b, o + j, none⟩) (setRow_other w g b cs hne)).trans (R j hj)⟩
theorem blk_range20 {w : World} {g : Nat} {t : TypeId} {l : List Value} (h : Blk w g t l.toArray) : w.rangeAt g 0 l := fun j v hv => by
  rw [Nat.zero_add, h.cell j]; simpa using hv
set_option maxRecDepth 100000 in
set_option maxHeartbeats 8000000 in
theorem works20 (w : World) : Calls Tryz.prog 12 #[] w (RetB w (.bool true)) := by
  have HM := Lib.hid (fun (u : World) (A : Option Addr) (h : OpsAt u A 4 w20l) => make18_any w20id w20l u A 4 4 (by omega) h)
  rw [w20_made.1, w20_made.2] at HM
  have hcV : ∀ args u, (callFunc 62 args).run Tryz.prog u = .ok (.enter 62 args) u := enters_of Tryz.func62 (by kernel_rfl) rfl
  have hcM : ∀ args u, (callFunc 61 args).run Tryz.prog u = .ok (.enter 61 args) u := enters_of Tryz.func61 (by kernel_rfl) rfl
  have KA : Hid (Blk (w.alloc (.cells #[.int .u8 1, .int .u16 1] 33)) w.heap.size 33 (encP w20id).toArray) := Blk.new _ _ _
  have B1 : Hid (Below w.heap.size w (w.alloc (.cells #[.int .u8 1, .int .u16 1] 33))) := below_new _ _
  go_enter Tryz.func12, Tryz.ntmps12
  go_upto_region 2 with fail
  generalize (w.alloc (.cells #[.int .u8 1, .int .u16 1] 33)) = w2 at *
  have RA := Lib.hid (fun (u : World) (hu : Below w2.heap.size w2 u) => blk_range20 (KA.out.ext hu))
  clear KA
  obtain ⟨ga, hga⟩ : ∃ ga, ga = w.heap.size := ⟨_, rfl⟩
  simp only [← hga] at RA ⊢
  replace hga := Lib.hid hga
  go_cut [2, 3] (fun e1 e2 wx => ∃ g A c A' c', e1 = .pointer (some ⟨g, 0, none⟩) ∧ e2 = .int .i64 0 ∧ Blk wx g 37 (patC w20p.1 A w20p.2.1.length c A' w20p.2.2.length c').toArray ∧ PatAt wx (patC w20p.1 A w20p.2.1.length c A' w20p.2.2.length c') w20p ∧ Below ga w wx)
  case first =>
    refine wp_region_held (S := fun w' => Below w2.heap.size w2 w') mixedS ?_
    change wpAnyH _ _ _ _ _ _ _ _ w2.drew
    have B21 : Hid (Below w2.heap.size w2 w2.drew) := (Below.refl _ _).drew
    generalize w2.drew = w21 at B21 ⊢
    simp only [List.size_toArray, List.length_cons, List.length_nil]
    refine takeV (i := 0) (d := 8) (v := .agg (encP w20id).toArray) rfl (by kernel_rfl) (by kernel_rfl) (by kernel_rfl) (fun _ _ _ h => h) rfl (fun w' h => exMid rfl (RA.out w' h) underPid rfl infoPid) B21.out ?_
    simp only [Act.put, List.setIfInBounds_toArray, List.set_cons_zero, List.set_cons_succ]
    refine takeV (i := 1) (d := 9) (v := .agg (encO w20a).toArray) rfl (by kernel_rfl) (by kernel_rfl) (by kernel_rfl) (fun _ _ _ h => h) rfl (fun w' _ => exBuild (vs := #[(0, .int .u8 1)]) (by simp only [List.map_toArray, List.map_cons, List.map_nil]; rfl) (build_w20a w')) B21.out ?_
    simp only [Act.put, List.setIfInBounds_toArray, List.set_cons_zero, List.set_cons_succ]
    refine takeV (i := 2) (d := 10) (v := .agg (encP w20id).toArray) rfl (by kernel_rfl) (by kernel_rfl) (by kernel_rfl) (fun _ _ _ h => h) rfl (fun w' h => exMid rfl (RA.out w' h) underPid rfl infoPid) B21.out ?_
    simp only [Act.put, List.setIfInBounds_toArray, List.set_cons_zero, List.set_cons_succ]
    refine takeV (i := 5) (d := 13) (v := .agg (encP w20id).toArray) rfl (by kernel_rfl) (by kernel_rfl) (by kernel_rfl) (fun _ _ _ h => h) rfl (fun w' h => exMid rfl (RA.out w' h) underPid rfl infoPid) B21.out ?_
    simp only [Act.put, List.setIfInBounds_toArray, List.set_cons_zero, List.set_cons_succ]
    refine takeV (i := 8) (d := 16) (v := .agg (encP w20id).toArray) rfl (by kernel_rfl) (by kernel_rfl) (by kernel_rfl) (fun _ _ _ h => h) rfl (fun w' h => exMid rfl (RA.out w' h) underPid rfl infoPid) B21.out ?_
    simp only [Act.put, List.setIfInBounds_toArray, List.set_cons_zero, List.set_cons_succ]
    refine takeV (i := 10) (d := 18) (v := .agg (encP w20id).toArray) rfl (by kernel_rfl) (by kernel_rfl) (by kernel_rfl) (fun _ _ _ h => h) rfl (fun w' h => exMid rfl (RA.out w' h) underPid rfl infoPid) B21.out ?_
    simp only [Act.put, List.setIfInBounds_toArray, List.set_cons_zero, List.set_cons_succ]
    refine wpAnyH_all (rs := [3, 18]) (by kernel_rfl) (by simp) ?_
    intro i hi
    simp only [List.mem_cons, List.not_mem_nil, or_false] at hi
    rcases hi with rfl | rfl
    · refine wpOp_of rfl rfl (wp_called (args := #[.agg (encP w20id).toArray, .int .i64 0]) hcV (by simp only [List.map_toArray, List.map_cons, List.map_nil]; rfl) (vid18_any w20id 0 w21) ?_)
      rintro e w_1 ⟨rfl, h_2⟩
      refine ⟨_, rfl, ext_trans B21.out h_2, ?_⟩
      simp only [Act.put, List.setIfInBounds_toArray, List.set_cons_zero, List.set_cons_succ]
      have B_3 := Lib.hid (ext_trans B21.out h_2)
      clear B21
      clear h_2
      refine takeV (i := 4) (d := 12) (v := .agg (encO w20b).toArray) rfl (by kernel_rfl) (by kernel_rfl) (by kernel_rfl) (fun _ _ _ h => h) rfl (fun w' _ => exBuild (vs := #[(0, .int .u8 3), (1, .agg (encV (vidOf w20id 0)).toArray), (3, .string ⟨#[120]⟩)]) (by simp only [List.map_toArray, List.map_cons, List.map_nil]; rfl) (build_w20b w')) B_3.out ?_
      simp only [Act.put, List.setIfInBounds_toArray, List.set_cons_zero, List.set_cons_succ]
      refine wpAnyH_all (rs := [6, 18]) (by kernel_rfl) (by simp) ?_
      intro i hi
      simp only [List.mem_cons, List.not_mem_nil, or_false] at hi
      rcases hi with rfl | rfl
      · refine wpOp_of rfl rfl (wp_called (args := #[.agg (encP w20id).toArray, .int .i64 0]) hcV (by simp only [List.map_toArray, List.map_cons, List.map_nil]; rfl) (vid18_any w20id 0 w_1) ?_)
        rintro e w_4 ⟨rfl, h_5⟩
        refine ⟨_, rfl, ext_trans B_3.out h_5, ?_⟩
        simp only [Act.put, List.setIfInBounds_toArray, List.set_cons_zero, List.set_cons_succ]
        have B_6 := Lib.hid (ext_trans B_3.out h_5)
        clear B_3
        clear h_5
        refine takeV (i := 7) (d := 15) (v := .agg (encO w20c).toArray) rfl (by kernel_rfl) (by kernel_rfl) (by kernel_rfl) (fun _ _ _ h => h) rfl (fun w' _ => exBuild (vs := #[(0, .int .u8 3), (1, .agg (encV (vidOf w20id 0)).toArray)]) (by simp only [List.map_toArray, List.map_cons, List.map_nil]; rfl) (build_w20c w')) B_6.out ?_
        simp only [Act.put, List.setIfInBounds_toArray, List.set_cons_zero, List.set_cons_succ]
        refine wpAnyH_all (rs := [9, 18]) (by kernel_rfl) (by simp) ?_
        intro i hi
        simp only [List.mem_cons, List.not_mem_nil, or_false] at hi
        rcases hi with rfl | rfl
        · refine wpOp_of rfl rfl (wp_called (args := #[.agg (encP w20id).toArray, .int .i64 1]) hcV (by simp only [List.map_toArray, List.map_cons, List.map_nil]; rfl) (vid18_any w20id 1 w_4) ?_)
          rintro e w_7 ⟨rfl, h_8⟩
          refine ⟨_, rfl, ext_trans B_6.out h_8, ?_⟩
          simp only [Act.put, List.setIfInBounds_toArray, List.set_cons_zero, List.set_cons_succ]
          have B_9 := Lib.hid (ext_trans B_6.out h_8)
          clear B_6
          clear h_8
          refine wpAnyH_all (rs := [11, 18]) (by kernel_rfl) (by simp) ?_
          intro i hi
          simp only [List.mem_cons, List.not_mem_nil, or_false] at hi
          rcases hi with rfl | rfl
          · refine wpOp_of rfl rfl (wp_called (args := #[.agg (encP w20id).toArray, .int .i64 2]) hcV (by simp only [List.map_toArray, List.map_cons, List.map_nil]; rfl) (vid18_any w20id 2 w_7) ?_)
            rintro e w_10 ⟨rfl, h_11⟩
            refine ⟨_, rfl, ext_trans B_9.out h_11, ?_⟩
            simp only [Act.put, List.setIfInBounds_toArray, List.set_cons_zero, List.set_cons_succ]
            have B_12 := Lib.hid (ext_trans B_9.out h_11)
            clear B_9
            clear h_11
            refine takeV (i := 12) (d := 20) (v := .agg (encO w20d).toArray) rfl (by kernel_rfl) (by kernel_rfl) (by kernel_rfl) (fun _ _ _ h => h) rfl (fun w' _ => exBuild (vs := #[(0, .int .u8 4), (1, .agg (encV (vidOf w20id 1)).toArray), (2, .agg (encV (vidOf w20id 2)).toArray)]) (by simp only [List.map_toArray, List.map_cons, List.map_nil]; rfl) (build_w20d w')) B_12.out ?_
            simp only [Act.put, List.setIfInBounds_toArray, List.set_cons_zero, List.set_cons_succ]
            refine wpAnyH_all (rs := [13, 18]) (by kernel_rfl) (by simp) ?_
            intro i hi
            simp only [List.mem_cons, List.not_mem_nil, or_false] at hi
            rcases hi with rfl | rfl
            · have P_15 := Lib.hid (w20_ops w_10)
              have h_16 : Below w_10.heap.size w_10 (w_10.alloc (.cells [encO w20a, encO w20b, encO w20c, encO w20d].flatten.toArray 110)) := below_new _ _
              refine wpOp_of rfl rfl (wp_lits opSl [encO w20a, encO w20b, encO w20c, encO w20d] rfl (by simp) (by simp [encO]) (by simp) (by simp only [List.map_toArray, List.map_cons, List.map_nil]; rfl) ?_)
              refine ⟨ext_trans B_12.out h_16, ?_⟩
              simp only [Act.put, List.setIfInBounds_toArray, List.set_cons_zero, List.set_cons_succ]
              generalize (w_10.alloc (.cells [encO w20a, encO w20b, encO w20c, encO w20d].flatten.toArray 110)) = w_13 at *
              have B_17 := Lib.hid (ext_trans B_12.out h_16)
              clear B_12
              clear h_16
              generalize w_10.heap.size = g_14 at *
              refine wpAnyH_all (rs := [14, 18]) (by kernel_rfl) (by simp) ?_
              intro i hi
              simp only [List.mem_cons, List.not_mem_nil, or_false] at hi
              rcases hi with rfl | rfl
              · refine wpOp_of rfl rfl (wp_called (args := #[.agg (encP w20id).toArray, .slice (some ⟨g_14, 0, none⟩) 4 4]) hcM (by simp only [List.map_toArray, List.map_cons, List.map_nil]; rfl) (HM.out w_13 _ P_15.out) ?_)
                rintro e w_18 ⟨_, rfl, p_21, h_19⟩
                have P_20 := Lib.hid p_21
                obtain ⟨⟨A_22, c_23, A_24, c_25, rfl, _, _⟩, _, _⟩ := p_21
                refine ⟨_, rfl, ext_trans B_17.out h_19, ?_⟩
                simp only [Act.put, List.setIfInBounds_toArray, List.set_cons_zero, List.set_cons_succ]
                have B_26 := Lib.hid (ext_trans B_17.out h_19)
                have F_27 := Lib.hid (P_15.out.ext h_19)
                clear B_17 P_15
                clear h_19
                refine takeV (i := 15) (d := 7) (v := .tuple #[.agg (patC w20p.1 A_22 w20p.2.1.length c_23 A_24 w20p.2.2.length c_25).toArray, .int .i64 0]) rfl (by kernel_rfl) (by kernel_rfl) (by kernel_rfl) (fun _ _ _ h => h) rfl (fun _ _ => exMove (v := .tuple #[.agg (patC w20p.1 A_22 w20p.2.1.length c_23 A_24 w20p.2.2.length c_25).toArray, .int .i64 0]) rfl) B_26.out ?_
                simp only [Act.put, List.setIfInBounds_toArray, List.set_cons_zero, List.set_cons_succ]
                refine takeV (i := 16) (d := 23) (v := .agg (patC w20p.1 A_22 w20p.2.1.length c_23 A_24 w20p.2.2.length c_25).toArray) rfl (by kernel_rfl) (by kernel_rfl) (by kernel_rfl) (fun _ _ _ h => h) rfl (fun _ _ => exExtract (v := .agg (patC w20p.1 A_22 w20p.2.1.length c_23 A_24 w20p.2.2.length c_25).toArray) rfl rfl) B_26.out ?_
                simp only [Act.put, List.setIfInBounds_toArray, List.set_cons_zero, List.set_cons_succ]
                refine takeV (i := 17) (d := 24) (v := .int .i64 0) rfl (by kernel_rfl) (by kernel_rfl) (by kernel_rfl) (fun _ _ _ h => h) rfl (fun _ _ => exExtract (v := .int .i64 0) rfl rfl) B_26.out ?_
                simp only [Act.put, List.setIfInBounds_toArray, List.set_cons_zero, List.set_cons_succ]
                refine wpAnyH_all (rs := [18]) (by kernel_rfl) (by simp) ?_
                intro i hi
                simp only [List.mem_cons, List.not_mem_nil, or_false] at hi
                subst hi
                refine wpOp_of rfl rfl (wp_alloced (allocPat _) ?_)
                refine ⟨ext_trans B_26.out (below_new _ _), ?_⟩
                simp only [Act.put, List.setIfInBounds_toArray, List.set_cons_zero, List.set_cons_succ]
                have K_28 : Hid (Blk (w_18.alloc (.cells #[.int .u8 0, .int .u16 0, .slice none 0 0, .slice none 0 0] 37)) w_18.heap.size 37 #[.int .u8 0, .int .u16 0, .slice none 0 0, .slice none 0 0]) := Blk.new _ _ _
                have h_29 : Below w_18.heap.size w_18 (w_18.alloc (.cells #[.int .u8 0, .int .u16 0, .slice none 0 0, .slice none 0 0] 37)) := below_new _ _
                have gz_31 : Hid (w2.heap.size ≤ w_18.heap.size) := B_26.out.size
                generalize (w_18.alloc (.cells #[.int .u8 0, .int .u16 0, .slice none 0 0, .slice none 0 0] 37)) = w_30 at *
                have B_33 := Lib.hid (ext_trans B_26.out h_29)
                have F_34 := Lib.hid (F_27.out.ext h_29)
                have F_35 := Lib.hid (P_20.out.ext h_29)
                clear B_26 F_27 P_20
                clear h_29
                generalize w_18.heap.size = g_32 at *
                refine wpAnyH_all (rs := [19]) (by kernel_rfl) (by simp) ?_
                intro i hi
                simp only [List.mem_cons, List.not_mem_nil, or_false] at hi
                subst hi
                refine wpOp_of rfl rfl (wp_stored (cs := (patC w20p.1 A_22 w20p.2.1.length c_23 A_24 w20p.2.2.length c_25).toArray) rfl rfl K_28.out (show (Tryz.prog.info? 37).map (·.size) = some ((patC w20p.1 A_22 w20p.2.1.length c_23 A_24 w20p.2.2.length c_25).toArray : Array Value).size from infoPat) rfl patC_one ?_)
                have K_36 := Lib.hid (K_28.out.row (patC w20p.1 A_22 w20p.2.1.length c_23 A_24 w20p.2.2.length c_25).toArray)
                have M_38 := Lib.hid (w20_kept K_28.out rfl F_35.out (patC w20p.1 A_22 w20p.2.1.length c_23 A_24 w20p.2.2.length c_25).toArray)
                have B_37 := Lib.hid (below_setRow B_33.out gz_31.out (patC w20p.1 A_22 w20p.2.1.length c_23 A_24 w20p.2.2.length c_25).toArray)
                refine ⟨B_37.out, ?_⟩
                clear B_33 F_34 F_35 K_28
                generalize (w_30.setRow g_32 (patC w20p.1 A_22 w20p.2.1.length c_23 A_24 w20p.2.2.length c_25).toArray) = w_39 at *
                refine takeV (i := 20) (d := 3) (v := .int .i64 0) rfl (by kernel_rfl) (by kernel_rfl) (by kernel_rfl) (fun _ _ _ h => h) rfl (fun _ _ => exAssign (v := .int .i64 0) rfl) B_37.out ?_
                simp only [Act.put, List.setIfInBounds_toArray, List.set_cons_zero, List.set_cons_succ]
                refine wpAnyH_done (by kernel_rfl) ?_ _
                have BF := Lib.hid (B1.out.trans (B_37.out.mono B1.out.size))
                go_wp2_with fail
                go_meet
                case rel => exact ⟨g_32, _, _, _, _, rfl, rfl, K_36.out, M_38.out, (by rw [hga.out]; exact BF.out)⟩
              · refine wpOp_of rfl rfl (wp_alloced (allocPat _) ?_)
                refine ⟨ext_trans B_17.out (below_new _ _), ?_⟩
                simp only [Act.put, List.setIfInBounds_toArray, List.set_cons_zero, List.set_cons_succ]
                have K_40 : Hid (Blk (w_13.alloc (.cells #[.int .u8 0, .int .u16 0, .slice none 0 0, .slice none 0 0] 37)) w_13.heap.size 37 #[.int .u8 0, .int .u16 0, .slice none 0 0, .slice none 0 0]) := Blk.new _ _ _
                have h_41 : Below w_13.heap.size w_13 (w_13.alloc (.cells #[.int .u8 0, .int .u16 0, .slice none 0 0, .slice none 0 0] 37)) := below_new _ _
                have gz_43 : Hid (w2.heap.size ≤ w_13.heap.size) := B_17.out.size
                generalize (w_13.alloc (.cells #[.int .u8 0, .int .u16 0, .slice none 0 0, .slice none 0 0] 37)) = w_42 at *
                have B_45 := Lib.hid (ext_trans B_17.out h_41)
                have F_46 := Lib.hid (P_15.out.ext h_41)
                clear B_17 P_15
                clear h_41
                generalize w_13.heap.size = g_44 at *
                refine wpAnyH_all (rs := [14]) (by kernel_rfl) (by simp) ?_
                intro i hi
                simp only [List.mem_cons, List.not_mem_nil, or_false] at hi
                subst hi
                refine wpOp_of rfl rfl (wp_called (args := #[.agg (encP w20id).toArray, .slice (some ⟨g_14, 0, none⟩) 4 4]) hcM (by simp only [List.map_toArray, List.map_cons, List.map_nil]; rfl) (HM.out w_42 _ F_46.out) ?_)
                rintro e w_47 ⟨_, rfl, p_50, h_48⟩
                have P_49 := Lib.hid p_50
                obtain ⟨⟨A_51, c_52, A_53, c_54, rfl, _, _⟩, _, _⟩ := p_50
                refine ⟨_, rfl, ext_trans B_45.out h_48, ?_⟩
                simp only [Act.put, List.setIfInBounds_toArray, List.set_cons_zero, List.set_cons_succ]
                have B_55 := Lib.hid (ext_trans B_45.out h_48)
                have F_56 := Lib.hid (F_46.out.ext h_48)
                have F_57 := Lib.hid (K_40.out.ext h_48)
                clear B_45 F_46 K_40
                clear h_48
                refine takeV (i := 15) (d := 7) (v := .tuple #[.agg (patC w20p.1 A_51 w20p.2.1.length c_52 A_53 w20p.2.2.length c_54).toArray, .int .i64 0]) rfl (by kernel_rfl) (by kernel_rfl) (by kernel_rfl) (fun _ _ _ h => h) rfl (fun _ _ => exMove (v := .tuple #[.agg (patC w20p.1 A_51 w20p.2.1.length c_52 A_53 w20p.2.2.length c_54).toArray, .int .i64 0]) rfl) B_55.out ?_
                simp only [Act.put, List.setIfInBounds_toArray, List.set_cons_zero, List.set_cons_succ]
                refine takeV (i := 16) (d := 23) (v := .agg (patC w20p.1 A_51 w20p.2.1.length c_52 A_53 w20p.2.2.length c_54).toArray) rfl (by kernel_rfl) (by kernel_rfl) (by kernel_rfl) (fun _ _ _ h => h) rfl (fun _ _ => exExtract (v := .agg (patC w20p.1 A_51 w20p.2.1.length c_52 A_53 w20p.2.2.length c_54).toArray) rfl rfl) B_55.out ?_
                simp only [Act.put, List.setIfInBounds_toArray, List.set_cons_zero, List.set_cons_succ]
                refine takeV (i := 17) (d := 24) (v := .int .i64 0) rfl (by kernel_rfl) (by kernel_rfl) (by kernel_rfl) (fun _ _ _ h => h) rfl (fun _ _ => exExtract (v := .int .i64 0) rfl rfl) B_55.out ?_
                simp only [Act.put, List.setIfInBounds_toArray, List.set_cons_zero, List.set_cons_succ]
                refine wpAnyH_all (rs := [19]) (by kernel_rfl) (by simp) ?_
                intro i hi
                simp only [List.mem_cons, List.not_mem_nil, or_false] at hi
                subst hi
                refine wpOp_of rfl rfl (wp_stored (cs := (patC w20p.1 A_51 w20p.2.1.length c_52 A_53 w20p.2.2.length c_54).toArray) rfl rfl F_57.out (show (Tryz.prog.info? 37).map (·.size) = some ((patC w20p.1 A_51 w20p.2.1.length c_52 A_53 w20p.2.2.length c_54).toArray : Array Value).size from infoPat) rfl patC_one ?_)
                have K_58 := Lib.hid (F_57.out.row (patC w20p.1 A_51 w20p.2.1.length c_52 A_53 w20p.2.2.length c_54).toArray)
                have M_60 := Lib.hid (w20_kept F_57.out rfl P_49.out (patC w20p.1 A_51 w20p.2.1.length c_52 A_53 w20p.2.2.length c_54).toArray)
                have B_59 := Lib.hid (below_setRow B_55.out gz_43.out (patC w20p.1 A_51 w20p.2.1.length c_52 A_53 w20p.2.2.length c_54).toArray)
                refine ⟨B_59.out, ?_⟩
                clear B_55 F_56 F_57 P_49
                generalize (w_47.setRow g_44 (patC w20p.1 A_51 w20p.2.1.length c_52 A_53 w20p.2.2.length c_54).toArray) = w_61 at *
                refine takeV (i := 20) (d := 3) (v := .int .i64 0) rfl (by kernel_rfl) (by kernel_rfl) (by kernel_rfl) (fun _ _ _ h => h) rfl (fun _ _ => exAssign (v := .int .i64 0) rfl) B_59.out ?_
                simp only [Act.put, List.setIfInBounds_toArray, List.set_cons_zero, List.set_cons_succ]
                refine wpAnyH_done (by kernel_rfl) ?_ _
                have BF := Lib.hid (B1.out.trans (B_59.out.mono B1.out.size))
                go_wp2_with fail
                go_meet
                case rel => exact ⟨g_44, _, _, _, _, rfl, rfl, K_58.out, M_60.out, (by rw [hga.out]; exact BF.out)⟩
            · refine wpOp_of rfl rfl (wp_alloced (allocPat _) ?_)
              refine ⟨ext_trans B_12.out (below_new _ _), ?_⟩
              simp only [Act.put, List.setIfInBounds_toArray, List.set_cons_zero, List.set_cons_succ]
              have K_62 : Hid (Blk (w_10.alloc (.cells #[.int .u8 0, .int .u16 0, .slice none 0 0, .slice none 0 0] 37)) w_10.heap.size 37 #[.int .u8 0, .int .u16 0, .slice none 0 0, .slice none 0 0]) := Blk.new _ _ _
              have h_63 : Below w_10.heap.size w_10 (w_10.alloc (.cells #[.int .u8 0, .int .u16 0, .slice none 0 0, .slice none 0 0] 37)) := below_new _ _
              have gz_65 : Hid (w2.heap.size ≤ w_10.heap.size) := B_12.out.size
              generalize (w_10.alloc (.cells #[.int .u8 0, .int .u16 0, .slice none 0 0, .slice none 0 0] 37)) = w_64 at *
              have B_67 := Lib.hid (ext_trans B_12.out h_63)
              clear B_12
              clear h_63
              generalize w_10.heap.size = g_66 at *
              refine wpAnyH_all (rs := [13]) (by kernel_rfl) (by simp) ?_
              intro i hi
              simp only [List.mem_cons, List.not_mem_nil, or_false] at hi
              subst hi
              have P_70 := Lib.hid (w20_ops w_64)
              have h_71 : Below w_64.heap.size w_64 (w_64.alloc (.cells [encO w20a, encO w20b, encO w20c, encO w20d].flatten.toArray 110)) := below_new _ _
              refine wpOp_of rfl rfl (wp_lits opSl [encO w20a, encO w20b, encO w20c, encO w20d] rfl (by simp) (by simp [encO]) (by simp) (by simp only [List.map_toArray, List.map_cons, List.map_nil]; rfl) ?_)
              refine ⟨ext_trans B_67.out h_71, ?_⟩
              simp only [Act.put, List.setIfInBounds_toArray, List.set_cons_zero, List.set_cons_succ]
              generalize (w_64.alloc (.cells [encO w20a, encO w20b, encO w20c, encO w20d].flatten.toArray 110)) = w_68 at *
              have B_72 := Lib.hid (ext_trans B_67.out h_71)
              have F_73 := Lib.hid (K_62.out.ext h_71)
              clear B_67 K_62
              clear h_71
              generalize w_64.heap.size = g_69 at *
              refine wpAnyH_all (rs := [14]) (by kernel_rfl) (by simp) ?_
              intro i hi
              simp only [List.mem_cons, List.not_mem_nil, or_false] at hi
              subst hi
              refine wpOp_of rfl rfl (wp_called (args := #[.agg (encP w20id).toArray, .slice (some ⟨g_69, 0, none⟩) 4 4]) hcM (by simp only [List.map_toArray, List.map_cons, List.map_nil]; rfl) (HM.out w_68 _ P_70.out) ?_)
              rintro e w_74 ⟨_, rfl, p_77, h_75⟩
              have P_76 := Lib.hid p_77
              obtain ⟨⟨A_78, c_79, A_80, c_81, rfl, _, _⟩, _, _⟩ := p_77
              refine ⟨_, rfl, ext_trans B_72.out h_75, ?_⟩
              simp only [Act.put, List.setIfInBounds_toArray, List.set_cons_zero, List.set_cons_succ]
              have B_82 := Lib.hid (ext_trans B_72.out h_75)
              have F_83 := Lib.hid (F_73.out.ext h_75)
              have F_84 := Lib.hid (P_70.out.ext h_75)
              clear B_72 F_73 P_70
              clear h_75
              refine takeV (i := 15) (d := 7) (v := .tuple #[.agg (patC w20p.1 A_78 w20p.2.1.length c_79 A_80 w20p.2.2.length c_81).toArray, .int .i64 0]) rfl (by kernel_rfl) (by kernel_rfl) (by kernel_rfl) (fun _ _ _ h => h) rfl (fun _ _ => exMove (v := .tuple #[.agg (patC w20p.1 A_78 w20p.2.1.length c_79 A_80 w20p.2.2.length c_81).toArray, .int .i64 0]) rfl) B_82.out ?_
              simp only [Act.put, List.setIfInBounds_toArray, List.set_cons_zero, List.set_cons_succ]
              refine takeV (i := 16) (d := 23) (v := .agg (patC w20p.1 A_78 w20p.2.1.length c_79 A_80 w20p.2.2.length c_81).toArray) rfl (by kernel_rfl) (by kernel_rfl) (by kernel_rfl) (fun _ _ _ h => h) rfl (fun _ _ => exExtract (v := .agg (patC w20p.1 A_78 w20p.2.1.length c_79 A_80 w20p.2.2.length c_81).toArray) rfl rfl) B_82.out ?_
              simp only [Act.put, List.setIfInBounds_toArray, List.set_cons_zero, List.set_cons_succ]
              refine takeV (i := 17) (d := 24) (v := .int .i64 0) rfl (by kernel_rfl) (by kernel_rfl) (by kernel_rfl) (fun _ _ _ h => h) rfl (fun _ _ => exExtract (v := .int .i64 0) rfl rfl) B_82.out ?_
              simp only [Act.put, List.setIfInBounds_toArray, List.set_cons_zero, List.set_cons_succ]
              refine wpAnyH_all (rs := [19]) (by kernel_rfl) (by simp) ?_
              intro i hi
              simp only [List.mem_cons, List.not_mem_nil, or_false] at hi
              subst hi
              refine wpOp_of rfl rfl (wp_stored (cs := (patC w20p.1 A_78 w20p.2.1.length c_79 A_80 w20p.2.2.length c_81).toArray) rfl rfl F_83.out (show (Tryz.prog.info? 37).map (·.size) = some ((patC w20p.1 A_78 w20p.2.1.length c_79 A_80 w20p.2.2.length c_81).toArray : Array Value).size from infoPat) rfl patC_one ?_)
              have K_85 := Lib.hid (F_83.out.row (patC w20p.1 A_78 w20p.2.1.length c_79 A_80 w20p.2.2.length c_81).toArray)
              have M_87 := Lib.hid (w20_kept F_83.out rfl P_76.out (patC w20p.1 A_78 w20p.2.1.length c_79 A_80 w20p.2.2.length c_81).toArray)
              have B_86 := Lib.hid (below_setRow B_82.out gz_65.out (patC w20p.1 A_78 w20p.2.1.length c_79 A_80 w20p.2.2.length c_81).toArray)
              refine ⟨B_86.out, ?_⟩
              clear B_82 F_83 F_84 P_76
              generalize (w_74.setRow g_66 (patC w20p.1 A_78 w20p.2.1.length c_79 A_80 w20p.2.2.length c_81).toArray) = w_88 at *
              refine takeV (i := 20) (d := 3) (v := .int .i64 0) rfl (by kernel_rfl) (by kernel_rfl) (by kernel_rfl) (fun _ _ _ h => h) rfl (fun _ _ => exAssign (v := .int .i64 0) rfl) B_86.out ?_
              simp only [Act.put, List.setIfInBounds_toArray, List.set_cons_zero, List.set_cons_succ]
              refine wpAnyH_done (by kernel_rfl) ?_ _
              have BF := Lib.hid (B1.out.trans (B_86.out.mono B1.out.size))
              go_wp2_with fail
              go_meet
              case rel => exact ⟨g_66, _, _, _, _, rfl, rfl, K_85.out, M_87.out, (by rw [hga.out]; exact BF.out)⟩
          · refine wpOp_of rfl rfl (wp_alloced (allocPat _) ?_)
            refine ⟨ext_trans B_9.out (below_new _ _), ?_⟩
            simp only [Act.put, List.setIfInBounds_toArray, List.set_cons_zero, List.set_cons_succ]
            have K_89 : Hid (Blk (w_7.alloc (.cells #[.int .u8 0, .int .u16 0, .slice none 0 0, .slice none 0 0] 37)) w_7.heap.size 37 #[.int .u8 0, .int .u16 0, .slice none 0 0, .slice none 0 0]) := Blk.new _ _ _
            have h_90 : Below w_7.heap.size w_7 (w_7.alloc (.cells #[.int .u8 0, .int .u16 0, .slice none 0 0, .slice none 0 0] 37)) := below_new _ _
            have gz_92 : Hid (w2.heap.size ≤ w_7.heap.size) := B_9.out.size
            generalize (w_7.alloc (.cells #[.int .u8 0, .int .u16 0, .slice none 0 0, .slice none 0 0] 37)) = w_91 at *
            have B_94 := Lib.hid (ext_trans B_9.out h_90)
            clear B_9
            clear h_90
            generalize w_7.heap.size = g_93 at *
            refine wpAnyH_all (rs := [11]) (by kernel_rfl) (by simp) ?_
            intro i hi
            simp only [List.mem_cons, List.not_mem_nil, or_false] at hi
            subst hi
            refine wpOp_of rfl rfl (wp_called (args := #[.agg (encP w20id).toArray, .int .i64 2]) hcV (by simp only [List.map_toArray, List.map_cons, List.map_nil]; rfl) (vid18_any w20id 2 w_91) ?_)
            rintro e w_95 ⟨rfl, h_96⟩
            refine ⟨_, rfl, ext_trans B_94.out h_96, ?_⟩
            simp only [Act.put, List.setIfInBounds_toArray, List.set_cons_zero, List.set_cons_succ]
            have B_97 := Lib.hid (ext_trans B_94.out h_96)
            have F_98 := Lib.hid (K_89.out.ext h_96)
            clear B_94 K_89
            clear h_96
            refine takeV (i := 12) (d := 20) (v := .agg (encO w20d).toArray) rfl (by kernel_rfl) (by kernel_rfl) (by kernel_rfl) (fun _ _ _ h => h) rfl (fun w' _ => exBuild (vs := #[(0, .int .u8 4), (1, .agg (encV (vidOf w20id 1)).toArray), (2, .agg (encV (vidOf w20id 2)).toArray)]) (by simp only [List.map_toArray, List.map_cons, List.map_nil]; rfl) (build_w20d w')) B_97.out ?_
            simp only [Act.put, List.setIfInBounds_toArray, List.set_cons_zero, List.set_cons_succ]
            refine wpAnyH_all (rs := [13]) (by kernel_rfl) (by simp) ?_
            intro i hi
            simp only [List.mem_cons, List.not_mem_nil, or_false] at hi
            subst hi
            have P_101 := Lib.hid (w20_ops w_95)
            have h_102 : Below w_95.heap.size w_95 (w_95.alloc (.cells [encO w20a, encO w20b, encO w20c, encO w20d].flatten.toArray 110)) := below_new _ _
            refine wpOp_of rfl rfl (wp_lits opSl [encO w20a, encO w20b, encO w20c, encO w20d] rfl (by simp) (by simp [encO]) (by simp) (by simp only [List.map_toArray, List.map_cons, List.map_nil]; rfl) ?_)
            refine ⟨ext_trans B_97.out h_102, ?_⟩
            simp only [Act.put, List.setIfInBounds_toArray, List.set_cons_zero, List.set_cons_succ]
            generalize (w_95.alloc (.cells [encO w20a, encO w20b, encO w20c, encO w20d].flatten.toArray 110)) = w_99 at *
            have B_103 := Lib.hid (ext_trans B_97.out h_102)
            have F_104 := Lib.hid (F_98.out.ext h_102)
            clear B_97 F_98
            clear h_102
            generalize w_95.heap.size = g_100 at *
            refine wpAnyH_all (rs := [14]) (by kernel_rfl) (by simp) ?_
            intro i hi
            simp only [List.mem_cons, List.not_mem_nil, or_false] at hi
            subst hi
            refine wpOp_of rfl rfl (wp_called (args := #[.agg (encP w20id).toArray, .slice (some ⟨g_100, 0, none⟩) 4 4]) hcM (by simp only [List.map_toArray, List.map_cons, List.map_nil]; rfl) (HM.out w_99 _ P_101.out) ?_)
            rintro e w_105 ⟨_, rfl, p_108, h_106⟩
            have P_107 := Lib.hid p_108
            obtain ⟨⟨A_109, c_110, A_111, c_112, rfl, _, _⟩, _, _⟩ := p_108
            refine ⟨_, rfl, ext_trans B_103.out h_106, ?_⟩
            simp only [Act.put, List.setIfInBounds_toArray, List.set_cons_zero, List.set_cons_succ]
            have B_113 := Lib.hid (ext_trans B_103.out h_106)
            have F_114 := Lib.hid (F_104.out.ext h_106)
            have F_115 := Lib.hid (P_101.out.ext h_106)
            clear B_103 F_104 P_101
            clear h_106
            refine takeV (i := 15) (d := 7) (v := .tuple #[.agg (patC w20p.1 A_109 w20p.2.1.length c_110 A_111 w20p.2.2.length c_112).toArray, .int .i64 0]) rfl (by kernel_rfl) (by kernel_rfl) (by kernel_rfl) (fun _ _ _ h => h) rfl (fun _ _ => exMove (v := .tuple #[.agg (patC w20p.1 A_109 w20p.2.1.length c_110 A_111 w20p.2.2.length c_112).toArray, .int .i64 0]) rfl) B_113.out ?_
            simp only [Act.put, List.setIfInBounds_toArray, List.set_cons_zero, List.set_cons_succ]
            refine takeV (i := 16) (d := 23) (v := .agg (patC w20p.1 A_109 w20p.2.1.length c_110 A_111 w20p.2.2.length c_112).toArray) rfl (by kernel_rfl) (by kernel_rfl) (by kernel_rfl) (fun _ _ _ h => h) rfl (fun _ _ => exExtract (v := .agg (patC w20p.1 A_109 w20p.2.1.length c_110 A_111 w20p.2.2.length c_112).toArray) rfl rfl) B_113.out ?_
            simp only [Act.put, List.setIfInBounds_toArray, List.set_cons_zero, List.set_cons_succ]
            refine takeV (i := 17) (d := 24) (v := .int .i64 0) rfl (by kernel_rfl) (by kernel_rfl) (by kernel_rfl) (fun _ _ _ h => h) rfl (fun _ _ => exExtract (v := .int .i64 0) rfl rfl) B_113.out ?_
            simp only [Act.put, List.setIfInBounds_toArray, List.set_cons_zero, List.set_cons_succ]
            refine wpAnyH_all (rs := [19]) (by kernel_rfl) (by simp) ?_
            intro i hi
            simp only [List.mem_cons, List.not_mem_nil, or_false] at hi
            subst hi
            refine wpOp_of rfl rfl (wp_stored (cs := (patC w20p.1 A_109 w20p.2.1.length c_110 A_111 w20p.2.2.length c_112).toArray) rfl rfl F_114.out (show (Tryz.prog.info? 37).map (·.size) = some ((patC w20p.1 A_109 w20p.2.1.length c_110 A_111 w20p.2.2.length c_112).toArray : Array Value).size from infoPat) rfl patC_one ?_)
            have K_116 := Lib.hid (F_114.out.row (patC w20p.1 A_109 w20p.2.1.length c_110 A_111 w20p.2.2.length c_112).toArray)
            have M_118 := Lib.hid (w20_kept F_114.out rfl P_107.out (patC w20p.1 A_109 w20p.2.1.length c_110 A_111 w20p.2.2.length c_112).toArray)
            have B_117 := Lib.hid (below_setRow B_113.out gz_92.out (patC w20p.1 A_109 w20p.2.1.length c_110 A_111 w20p.2.2.length c_112).toArray)
            refine ⟨B_117.out, ?_⟩
            clear B_113 F_114 F_115 P_107
            generalize (w_105.setRow g_93 (patC w20p.1 A_109 w20p.2.1.length c_110 A_111 w20p.2.2.length c_112).toArray) = w_119 at *
            refine takeV (i := 20) (d := 3) (v := .int .i64 0) rfl (by kernel_rfl) (by kernel_rfl) (by kernel_rfl) (fun _ _ _ h => h) rfl (fun _ _ => exAssign (v := .int .i64 0) rfl) B_117.out ?_
            simp only [Act.put, List.setIfInBounds_toArray, List.set_cons_zero, List.set_cons_succ]
            refine wpAnyH_done (by kernel_rfl) ?_ _
            have BF := Lib.hid (B1.out.trans (B_117.out.mono B1.out.size))
            go_wp2_with fail
            go_meet
            case rel => exact ⟨g_93, _, _, _, _, rfl, rfl, K_116.out, M_118.out, (by rw [hga.out]; exact BF.out)⟩
        · refine wpOp_of rfl rfl (wp_alloced (allocPat _) ?_)
          refine ⟨ext_trans B_6.out (below_new _ _), ?_⟩
          simp only [Act.put, List.setIfInBounds_toArray, List.set_cons_zero, List.set_cons_succ]
          have K_120 : Hid (Blk (w_4.alloc (.cells #[.int .u8 0, .int .u16 0, .slice none 0 0, .slice none 0 0] 37)) w_4.heap.size 37 #[.int .u8 0, .int .u16 0, .slice none 0 0, .slice none 0 0]) := Blk.new _ _ _
          have h_121 : Below w_4.heap.size w_4 (w_4.alloc (.cells #[.int .u8 0, .int .u16 0, .slice none 0 0, .slice none 0 0] 37)) := below_new _ _
          have gz_123 : Hid (w2.heap.size ≤ w_4.heap.size) := B_6.out.size
          generalize (w_4.alloc (.cells #[.int .u8 0, .int .u16 0, .slice none 0 0, .slice none 0 0] 37)) = w_122 at *
          have B_125 := Lib.hid (ext_trans B_6.out h_121)
          clear B_6
          clear h_121
          generalize w_4.heap.size = g_124 at *
          refine wpAnyH_all (rs := [9]) (by kernel_rfl) (by simp) ?_
          intro i hi
          simp only [List.mem_cons, List.not_mem_nil, or_false] at hi
          subst hi
          refine wpOp_of rfl rfl (wp_called (args := #[.agg (encP w20id).toArray, .int .i64 1]) hcV (by simp only [List.map_toArray, List.map_cons, List.map_nil]; rfl) (vid18_any w20id 1 w_122) ?_)
          rintro e w_126 ⟨rfl, h_127⟩
          refine ⟨_, rfl, ext_trans B_125.out h_127, ?_⟩
          simp only [Act.put, List.setIfInBounds_toArray, List.set_cons_zero, List.set_cons_succ]
          have B_128 := Lib.hid (ext_trans B_125.out h_127)
          have F_129 := Lib.hid (K_120.out.ext h_127)
          clear B_125 K_120
          clear h_127
          refine wpAnyH_all (rs := [11]) (by kernel_rfl) (by simp) ?_
          intro i hi
          simp only [List.mem_cons, List.not_mem_nil, or_false] at hi
          subst hi
          refine wpOp_of rfl rfl (wp_called (args := #[.agg (encP w20id).toArray, .int .i64 2]) hcV (by simp only [List.map_toArray, List.map_cons, List.map_nil]; rfl) (vid18_any w20id 2 w_126) ?_)
          rintro e w_130 ⟨rfl, h_131⟩
          refine ⟨_, rfl, ext_trans B_128.out h_131, ?_⟩
          simp only [Act.put, List.setIfInBounds_toArray, List.set_cons_zero, List.set_cons_succ]
          have B_132 := Lib.hid (ext_trans B_128.out h_131)
          have F_133 := Lib.hid (F_129.out.ext h_131)
          clear B_128 F_129
          clear h_131
          refine takeV (i := 12) (d := 20) (v := .agg (encO w20d).toArray) rfl (by kernel_rfl) (by kernel_rfl) (by kernel_rfl) (fun _ _ _ h => h) rfl (fun w' _ => exBuild (vs := #[(0, .int .u8 4), (1, .agg (encV (vidOf w20id 1)).toArray), (2, .agg (encV (vidOf w20id 2)).toArray)]) (by simp only [List.map_toArray, List.map_cons, List.map_nil]; rfl) (build_w20d w')) B_132.out ?_
          simp only [Act.put, List.setIfInBounds_toArray, List.set_cons_zero, List.set_cons_succ]
          refine wpAnyH_all (rs := [13]) (by kernel_rfl) (by simp) ?_
          intro i hi
          simp only [List.mem_cons, List.not_mem_nil, or_false] at hi
          subst hi
          have P_136 := Lib.hid (w20_ops w_130)
          have h_137 : Below w_130.heap.size w_130 (w_130.alloc (.cells [encO w20a, encO w20b, encO w20c, encO w20d].flatten.toArray 110)) := below_new _ _
          refine wpOp_of rfl rfl (wp_lits opSl [encO w20a, encO w20b, encO w20c, encO w20d] rfl (by simp) (by simp [encO]) (by simp) (by simp only [List.map_toArray, List.map_cons, List.map_nil]; rfl) ?_)
          refine ⟨ext_trans B_132.out h_137, ?_⟩
          simp only [Act.put, List.setIfInBounds_toArray, List.set_cons_zero, List.set_cons_succ]
          generalize (w_130.alloc (.cells [encO w20a, encO w20b, encO w20c, encO w20d].flatten.toArray 110)) = w_134 at *
          have B_138 := Lib.hid (ext_trans B_132.out h_137)
          have F_139 := Lib.hid (F_133.out.ext h_137)
          clear B_132 F_133
          clear h_137
          generalize w_130.heap.size = g_135 at *
          refine wpAnyH_all (rs := [14]) (by kernel_rfl) (by simp) ?_
          intro i hi
          simp only [List.mem_cons, List.not_mem_nil, or_false] at hi
          subst hi
          refine wpOp_of rfl rfl (wp_called (args := #[.agg (encP w20id).toArray, .slice (some ⟨g_135, 0, none⟩) 4 4]) hcM (by simp only [List.map_toArray, List.map_cons, List.map_nil]; rfl) (HM.out w_134 _ P_136.out) ?_)
          rintro e w_140 ⟨_, rfl, p_143, h_141⟩
          have P_142 := Lib.hid p_143
          obtain ⟨⟨A_144, c_145, A_146, c_147, rfl, _, _⟩, _, _⟩ := p_143
          refine ⟨_, rfl, ext_trans B_138.out h_141, ?_⟩
          simp only [Act.put, List.setIfInBounds_toArray, List.set_cons_zero, List.set_cons_succ]
          have B_148 := Lib.hid (ext_trans B_138.out h_141)
          have F_149 := Lib.hid (F_139.out.ext h_141)
          have F_150 := Lib.hid (P_136.out.ext h_141)
          clear B_138 F_139 P_136
          clear h_141
          refine takeV (i := 15) (d := 7) (v := .tuple #[.agg (patC w20p.1 A_144 w20p.2.1.length c_145 A_146 w20p.2.2.length c_147).toArray, .int .i64 0]) rfl (by kernel_rfl) (by kernel_rfl) (by kernel_rfl) (fun _ _ _ h => h) rfl (fun _ _ => exMove (v := .tuple #[.agg (patC w20p.1 A_144 w20p.2.1.length c_145 A_146 w20p.2.2.length c_147).toArray, .int .i64 0]) rfl) B_148.out ?_
          simp only [Act.put, List.setIfInBounds_toArray, List.set_cons_zero, List.set_cons_succ]
          refine takeV (i := 16) (d := 23) (v := .agg (patC w20p.1 A_144 w20p.2.1.length c_145 A_146 w20p.2.2.length c_147).toArray) rfl (by kernel_rfl) (by kernel_rfl) (by kernel_rfl) (fun _ _ _ h => h) rfl (fun _ _ => exExtract (v := .agg (patC w20p.1 A_144 w20p.2.1.length c_145 A_146 w20p.2.2.length c_147).toArray) rfl rfl) B_148.out ?_
          simp only [Act.put, List.setIfInBounds_toArray, List.set_cons_zero, List.set_cons_succ]
          refine takeV (i := 17) (d := 24) (v := .int .i64 0) rfl (by kernel_rfl) (by kernel_rfl) (by kernel_rfl) (fun _ _ _ h => h) rfl (fun _ _ => exExtract (v := .int .i64 0) rfl rfl) B_148.out ?_
          simp only [Act.put, List.setIfInBounds_toArray, List.set_cons_zero, List.set_cons_succ]
          refine wpAnyH_all (rs := [19]) (by kernel_rfl) (by simp) ?_
          intro i hi
          simp only [List.mem_cons, List.not_mem_nil, or_false] at hi
          subst hi
          refine wpOp_of rfl rfl (wp_stored (cs := (patC w20p.1 A_144 w20p.2.1.length c_145 A_146 w20p.2.2.length c_147).toArray) rfl rfl F_149.out (show (Tryz.prog.info? 37).map (·.size) = some ((patC w20p.1 A_144 w20p.2.1.length c_145 A_146 w20p.2.2.length c_147).toArray : Array Value).size from infoPat) rfl patC_one ?_)
          have K_151 := Lib.hid (F_149.out.row (patC w20p.1 A_144 w20p.2.1.length c_145 A_146 w20p.2.2.length c_147).toArray)
          have M_153 := Lib.hid (w20_kept F_149.out rfl P_142.out (patC w20p.1 A_144 w20p.2.1.length c_145 A_146 w20p.2.2.length c_147).toArray)
          have B_152 := Lib.hid (below_setRow B_148.out gz_123.out (patC w20p.1 A_144 w20p.2.1.length c_145 A_146 w20p.2.2.length c_147).toArray)
          refine ⟨B_152.out, ?_⟩
          clear B_148 F_149 F_150 P_142
          generalize (w_140.setRow g_124 (patC w20p.1 A_144 w20p.2.1.length c_145 A_146 w20p.2.2.length c_147).toArray) = w_154 at *
          refine takeV (i := 20) (d := 3) (v := .int .i64 0) rfl (by kernel_rfl) (by kernel_rfl) (by kernel_rfl) (fun _ _ _ h => h) rfl (fun _ _ => exAssign (v := .int .i64 0) rfl) B_152.out ?_
          simp only [Act.put, List.setIfInBounds_toArray, List.set_cons_zero, List.set_cons_succ]
          refine wpAnyH_done (by kernel_rfl) ?_ _
          have BF := Lib.hid (B1.out.trans (B_152.out.mono B1.out.size))
          go_wp2_with fail
          go_meet
          case rel => exact ⟨g_124, _, _, _, _, rfl, rfl, K_151.out, M_153.out, (by rw [hga.out]; exact BF.out)⟩
      · refine wpOp_of rfl rfl (wp_alloced (allocPat _) ?_)
        refine ⟨ext_trans B_3.out (below_new _ _), ?_⟩
        simp only [Act.put, List.setIfInBounds_toArray, List.set_cons_zero, List.set_cons_succ]
        have K_155 : Hid (Blk (w_1.alloc (.cells #[.int .u8 0, .int .u16 0, .slice none 0 0, .slice none 0 0] 37)) w_1.heap.size 37 #[.int .u8 0, .int .u16 0, .slice none 0 0, .slice none 0 0]) := Blk.new _ _ _
        have h_156 : Below w_1.heap.size w_1 (w_1.alloc (.cells #[.int .u8 0, .int .u16 0, .slice none 0 0, .slice none 0 0] 37)) := below_new _ _
        have gz_158 : Hid (w2.heap.size ≤ w_1.heap.size) := B_3.out.size
        generalize (w_1.alloc (.cells #[.int .u8 0, .int .u16 0, .slice none 0 0, .slice none 0 0] 37)) = w_157 at *
        have B_160 := Lib.hid (ext_trans B_3.out h_156)
        clear B_3
        clear h_156
        generalize w_1.heap.size = g_159 at *
        refine wpAnyH_all (rs := [6]) (by kernel_rfl) (by simp) ?_
        intro i hi
        simp only [List.mem_cons, List.not_mem_nil, or_false] at hi
        subst hi
        refine wpOp_of rfl rfl (wp_called (args := #[.agg (encP w20id).toArray, .int .i64 0]) hcV (by simp only [List.map_toArray, List.map_cons, List.map_nil]; rfl) (vid18_any w20id 0 w_157) ?_)
        rintro e w_161 ⟨rfl, h_162⟩
        refine ⟨_, rfl, ext_trans B_160.out h_162, ?_⟩
        simp only [Act.put, List.setIfInBounds_toArray, List.set_cons_zero, List.set_cons_succ]
        have B_163 := Lib.hid (ext_trans B_160.out h_162)
        have F_164 := Lib.hid (K_155.out.ext h_162)
        clear B_160 K_155
        clear h_162
        refine takeV (i := 7) (d := 15) (v := .agg (encO w20c).toArray) rfl (by kernel_rfl) (by kernel_rfl) (by kernel_rfl) (fun _ _ _ h => h) rfl (fun w' _ => exBuild (vs := #[(0, .int .u8 3), (1, .agg (encV (vidOf w20id 0)).toArray)]) (by simp only [List.map_toArray, List.map_cons, List.map_nil]; rfl) (build_w20c w')) B_163.out ?_
        simp only [Act.put, List.setIfInBounds_toArray, List.set_cons_zero, List.set_cons_succ]
        refine wpAnyH_all (rs := [9]) (by kernel_rfl) (by simp) ?_
        intro i hi
        simp only [List.mem_cons, List.not_mem_nil, or_false] at hi
        subst hi
        refine wpOp_of rfl rfl (wp_called (args := #[.agg (encP w20id).toArray, .int .i64 1]) hcV (by simp only [List.map_toArray, List.map_cons, List.map_nil]; rfl) (vid18_any w20id 1 w_161) ?_)
        rintro e w_165 ⟨rfl, h_166⟩
        refine ⟨_, rfl, ext_trans B_163.out h_166, ?_⟩
        simp only [Act.put, List.setIfInBounds_toArray, List.set_cons_zero, List.set_cons_succ]
        have B_167 := Lib.hid (ext_trans B_163.out h_166)
        have F_168 := Lib.hid (F_164.out.ext h_166)
        clear B_163 F_164
        clear h_166
        refine wpAnyH_all (rs := [11]) (by kernel_rfl) (by simp) ?_
        intro i hi
        simp only [List.mem_cons, List.not_mem_nil, or_false] at hi
        subst hi
        refine wpOp_of rfl rfl (wp_called (args := #[.agg (encP w20id).toArray, .int .i64 2]) hcV (by simp only [List.map_toArray, List.map_cons, List.map_nil]; rfl) (vid18_any w20id 2 w_165) ?_)
        rintro e w_169 ⟨rfl, h_170⟩
        refine ⟨_, rfl, ext_trans B_167.out h_170, ?_⟩
        simp only [Act.put, List.setIfInBounds_toArray, List.set_cons_zero, List.set_cons_succ]
        have B_171 := Lib.hid (ext_trans B_167.out h_170)
        have F_172 := Lib.hid (F_168.out.ext h_170)
        clear B_167 F_168
        clear h_170
        refine takeV (i := 12) (d := 20) (v := .agg (encO w20d).toArray) rfl (by kernel_rfl) (by kernel_rfl) (by kernel_rfl) (fun _ _ _ h => h) rfl (fun w' _ => exBuild (vs := #[(0, .int .u8 4), (1, .agg (encV (vidOf w20id 1)).toArray), (2, .agg (encV (vidOf w20id 2)).toArray)]) (by simp only [List.map_toArray, List.map_cons, List.map_nil]; rfl) (build_w20d w')) B_171.out ?_
        simp only [Act.put, List.setIfInBounds_toArray, List.set_cons_zero, List.set_cons_succ]
        refine wpAnyH_all (rs := [13]) (by kernel_rfl) (by simp) ?_
        intro i hi
        simp only [List.mem_cons, List.not_mem_nil, or_false] at hi
        subst hi
        have P_175 := Lib.hid (w20_ops w_169)
        have h_176 : Below w_169.heap.size w_169 (w_169.alloc (.cells [encO w20a, encO w20b, encO w20c, encO w20d].flatten.toArray 110)) := below_new _ _
        refine wpOp_of rfl rfl (wp_lits opSl [encO w20a, encO w20b, encO w20c, encO w20d] rfl (by simp) (by simp [encO]) (by simp) (by simp only [List.map_toArray, List.map_cons, List.map_nil]; rfl) ?_)
        refine ⟨ext_trans B_171.out h_176, ?_⟩
        simp only [Act.put, List.setIfInBounds_toArray, List.set_cons_zero, List.set_cons_succ]
        generalize (w_169.alloc (.cells [encO w20a, encO w20b, encO w20c, encO w20d].flatten.toArray 110)) = w_173 at *
        have B_177 := Lib.hid (ext_trans B_171.out h_176)
        have F_178 := Lib.hid (F_172.out.ext h_176)
        clear B_171 F_172
        clear h_176
        generalize w_169.heap.size = g_174 at *
        refine wpAnyH_all (rs := [14]) (by kernel_rfl) (by simp) ?_
        intro i hi
        simp only [List.mem_cons, List.not_mem_nil, or_false] at hi
        subst hi
        refine wpOp_of rfl rfl (wp_called (args := #[.agg (encP w20id).toArray, .slice (some ⟨g_174, 0, none⟩) 4 4]) hcM (by simp only [List.map_toArray, List.map_cons, List.map_nil]; rfl) (HM.out w_173 _ P_175.out) ?_)
        rintro e w_179 ⟨_, rfl, p_182, h_180⟩
        have P_181 := Lib.hid p_182
        obtain ⟨⟨A_183, c_184, A_185, c_186, rfl, _, _⟩, _, _⟩ := p_182
        refine ⟨_, rfl, ext_trans B_177.out h_180, ?_⟩
        simp only [Act.put, List.setIfInBounds_toArray, List.set_cons_zero, List.set_cons_succ]
        have B_187 := Lib.hid (ext_trans B_177.out h_180)
        have F_188 := Lib.hid (F_178.out.ext h_180)
        have F_189 := Lib.hid (P_175.out.ext h_180)
        clear B_177 F_178 P_175
        clear h_180
        refine takeV (i := 15) (d := 7) (v := .tuple #[.agg (patC w20p.1 A_183 w20p.2.1.length c_184 A_185 w20p.2.2.length c_186).toArray, .int .i64 0]) rfl (by kernel_rfl) (by kernel_rfl) (by kernel_rfl) (fun _ _ _ h => h) rfl (fun _ _ => exMove (v := .tuple #[.agg (patC w20p.1 A_183 w20p.2.1.length c_184 A_185 w20p.2.2.length c_186).toArray, .int .i64 0]) rfl) B_187.out ?_
        simp only [Act.put, List.setIfInBounds_toArray, List.set_cons_zero, List.set_cons_succ]
        refine takeV (i := 16) (d := 23) (v := .agg (patC w20p.1 A_183 w20p.2.1.length c_184 A_185 w20p.2.2.length c_186).toArray) rfl (by kernel_rfl) (by kernel_rfl) (by kernel_rfl) (fun _ _ _ h => h) rfl (fun _ _ => exExtract (v := .agg (patC w20p.1 A_183 w20p.2.1.length c_184 A_185 w20p.2.2.length c_186).toArray) rfl rfl) B_187.out ?_
        simp only [Act.put, List.setIfInBounds_toArray, List.set_cons_zero, List.set_cons_succ]
        refine takeV (i := 17) (d := 24) (v := .int .i64 0) rfl (by kernel_rfl) (by kernel_rfl) (by kernel_rfl) (fun _ _ _ h => h) rfl (fun _ _ => exExtract (v := .int .i64 0) rfl rfl) B_187.out ?_
        simp only [Act.put, List.setIfInBounds_toArray, List.set_cons_zero, List.set_cons_succ]
        refine wpAnyH_all (rs := [19]) (by kernel_rfl) (by simp) ?_
        intro i hi
        simp only [List.mem_cons, List.not_mem_nil, or_false] at hi
        subst hi
        refine wpOp_of rfl rfl (wp_stored (cs := (patC w20p.1 A_183 w20p.2.1.length c_184 A_185 w20p.2.2.length c_186).toArray) rfl rfl F_188.out (show (Tryz.prog.info? 37).map (·.size) = some ((patC w20p.1 A_183 w20p.2.1.length c_184 A_185 w20p.2.2.length c_186).toArray : Array Value).size from infoPat) rfl patC_one ?_)
        have K_190 := Lib.hid (F_188.out.row (patC w20p.1 A_183 w20p.2.1.length c_184 A_185 w20p.2.2.length c_186).toArray)
        have M_192 := Lib.hid (w20_kept F_188.out rfl P_181.out (patC w20p.1 A_183 w20p.2.1.length c_184 A_185 w20p.2.2.length c_186).toArray)
        have B_191 := Lib.hid (below_setRow B_187.out gz_158.out (patC w20p.1 A_183 w20p.2.1.length c_184 A_185 w20p.2.2.length c_186).toArray)
        refine ⟨B_191.out, ?_⟩
        clear B_187 F_188 F_189 P_181
        generalize (w_179.setRow g_159 (patC w20p.1 A_183 w20p.2.1.length c_184 A_185 w20p.2.2.length c_186).toArray) = w_193 at *
        refine takeV (i := 20) (d := 3) (v := .int .i64 0) rfl (by kernel_rfl) (by kernel_rfl) (by kernel_rfl) (fun _ _ _ h => h) rfl (fun _ _ => exAssign (v := .int .i64 0) rfl) B_191.out ?_
        simp only [Act.put, List.setIfInBounds_toArray, List.set_cons_zero, List.set_cons_succ]
        refine wpAnyH_done (by kernel_rfl) ?_ _
        have BF := Lib.hid (B1.out.trans (B_191.out.mono B1.out.size))
        go_wp2_with fail
        go_meet
        case rel => exact ⟨g_159, _, _, _, _, rfl, rfl, K_190.out, M_192.out, (by rw [hga.out]; exact BF.out)⟩
    · refine wpOp_of rfl rfl (wp_alloced (allocPat _) ?_)
      refine ⟨ext_trans B21.out (below_new _ _), ?_⟩
      simp only [Act.put, List.setIfInBounds_toArray, List.set_cons_zero, List.set_cons_succ]
      have K_194 : Hid (Blk (w21.alloc (.cells #[.int .u8 0, .int .u16 0, .slice none 0 0, .slice none 0 0] 37)) w21.heap.size 37 #[.int .u8 0, .int .u16 0, .slice none 0 0, .slice none 0 0]) := Blk.new _ _ _
      have h_195 : Below w21.heap.size w21 (w21.alloc (.cells #[.int .u8 0, .int .u16 0, .slice none 0 0, .slice none 0 0] 37)) := below_new _ _
      have gz_197 : Hid (w2.heap.size ≤ w21.heap.size) := B21.out.size
      generalize (w21.alloc (.cells #[.int .u8 0, .int .u16 0, .slice none 0 0, .slice none 0 0] 37)) = w_196 at *
      have B_199 := Lib.hid (ext_trans B21.out h_195)
      clear B21
      clear h_195
      generalize w21.heap.size = g_198 at *
      refine wpAnyH_all (rs := [3]) (by kernel_rfl) (by simp) ?_
      intro i hi
      simp only [List.mem_cons, List.not_mem_nil, or_false] at hi
      subst hi
      refine wpOp_of rfl rfl (wp_called (args := #[.agg (encP w20id).toArray, .int .i64 0]) hcV (by simp only [List.map_toArray, List.map_cons, List.map_nil]; rfl) (vid18_any w20id 0 w_196) ?_)
      rintro e w_200 ⟨rfl, h_201⟩
      refine ⟨_, rfl, ext_trans B_199.out h_201, ?_⟩
      simp only [Act.put, List.setIfInBounds_toArray, List.set_cons_zero, List.set_cons_succ]
      have B_202 := Lib.hid (ext_trans B_199.out h_201)
      have F_203 := Lib.hid (K_194.out.ext h_201)
      clear B_199 K_194
      clear h_201
      refine takeV (i := 4) (d := 12) (v := .agg (encO w20b).toArray) rfl (by kernel_rfl) (by kernel_rfl) (by kernel_rfl) (fun _ _ _ h => h) rfl (fun w' _ => exBuild (vs := #[(0, .int .u8 3), (1, .agg (encV (vidOf w20id 0)).toArray), (3, .string ⟨#[120]⟩)]) (by simp only [List.map_toArray, List.map_cons, List.map_nil]; rfl) (build_w20b w')) B_202.out ?_
      simp only [Act.put, List.setIfInBounds_toArray, List.set_cons_zero, List.set_cons_succ]
      refine wpAnyH_all (rs := [6]) (by kernel_rfl) (by simp) ?_
      intro i hi
      simp only [List.mem_cons, List.not_mem_nil, or_false] at hi
      subst hi
      refine wpOp_of rfl rfl (wp_called (args := #[.agg (encP w20id).toArray, .int .i64 0]) hcV (by simp only [List.map_toArray, List.map_cons, List.map_nil]; rfl) (vid18_any w20id 0 w_200) ?_)
      rintro e w_204 ⟨rfl, h_205⟩
      refine ⟨_, rfl, ext_trans B_202.out h_205, ?_⟩
      simp only [Act.put, List.setIfInBounds_toArray, List.set_cons_zero, List.set_cons_succ]
      have B_206 := Lib.hid (ext_trans B_202.out h_205)
      have F_207 := Lib.hid (F_203.out.ext h_205)
      clear B_202 F_203
      clear h_205
      refine takeV (i := 7) (d := 15) (v := .agg (encO w20c).toArray) rfl (by kernel_rfl) (by kernel_rfl) (by kernel_rfl) (fun _ _ _ h => h) rfl (fun w' _ => exBuild (vs := #[(0, .int .u8 3), (1, .agg (encV (vidOf w20id 0)).toArray)]) (by simp only [List.map_toArray, List.map_cons, List.map_nil]; rfl) (build_w20c w')) B_206.out ?_
      simp only [Act.put, List.setIfInBounds_toArray, List.set_cons_zero, List.set_cons_succ]
      refine wpAnyH_all (rs := [9]) (by kernel_rfl) (by simp) ?_
      intro i hi
      simp only [List.mem_cons, List.not_mem_nil, or_false] at hi
      subst hi
      refine wpOp_of rfl rfl (wp_called (args := #[.agg (encP w20id).toArray, .int .i64 1]) hcV (by simp only [List.map_toArray, List.map_cons, List.map_nil]; rfl) (vid18_any w20id 1 w_204) ?_)
      rintro e w_208 ⟨rfl, h_209⟩
      refine ⟨_, rfl, ext_trans B_206.out h_209, ?_⟩
      simp only [Act.put, List.setIfInBounds_toArray, List.set_cons_zero, List.set_cons_succ]
      have B_210 := Lib.hid (ext_trans B_206.out h_209)
      have F_211 := Lib.hid (F_207.out.ext h_209)
      clear B_206 F_207
      clear h_209
      refine wpAnyH_all (rs := [11]) (by kernel_rfl) (by simp) ?_
      intro i hi
      simp only [List.mem_cons, List.not_mem_nil, or_false] at hi
      subst hi
      refine wpOp_of rfl rfl (wp_called (args := #[.agg (encP w20id).toArray, .int .i64 2]) hcV (by simp only [List.map_toArray, List.map_cons, List.map_nil]; rfl) (vid18_any w20id 2 w_208) ?_)
      rintro e w_212 ⟨rfl, h_213⟩
      refine ⟨_, rfl, ext_trans B_210.out h_213, ?_⟩
      simp only [Act.put, List.setIfInBounds_toArray, List.set_cons_zero, List.set_cons_succ]
      have B_214 := Lib.hid (ext_trans B_210.out h_213)
      have F_215 := Lib.hid (F_211.out.ext h_213)
      clear B_210 F_211
      clear h_213
      refine takeV (i := 12) (d := 20) (v := .agg (encO w20d).toArray) rfl (by kernel_rfl) (by kernel_rfl) (by kernel_rfl) (fun _ _ _ h => h) rfl (fun w' _ => exBuild (vs := #[(0, .int .u8 4), (1, .agg (encV (vidOf w20id 1)).toArray), (2, .agg (encV (vidOf w20id 2)).toArray)]) (by simp only [List.map_toArray, List.map_cons, List.map_nil]; rfl) (build_w20d w')) B_214.out ?_
      simp only [Act.put, List.setIfInBounds_toArray, List.set_cons_zero, List.set_cons_succ]
      refine wpAnyH_all (rs := [13]) (by kernel_rfl) (by simp) ?_
      intro i hi
      simp only [List.mem_cons, List.not_mem_nil, or_false] at hi
      subst hi
      have P_218 := Lib.hid (w20_ops w_212)
      have h_219 : Below w_212.heap.size w_212 (w_212.alloc (.cells [encO w20a, encO w20b, encO w20c, encO w20d].flatten.toArray 110)) := below_new _ _
      refine wpOp_of rfl rfl (wp_lits opSl [encO w20a, encO w20b, encO w20c, encO w20d] rfl (by simp) (by simp [encO]) (by simp) (by simp only [List.map_toArray, List.map_cons, List.map_nil]; rfl) ?_)
      refine ⟨ext_trans B_214.out h_219, ?_⟩
      simp only [Act.put, List.setIfInBounds_toArray, List.set_cons_zero, List.set_cons_succ]
      generalize (w_212.alloc (.cells [encO w20a, encO w20b, encO w20c, encO w20d].flatten.toArray 110)) = w_216 at *
      have B_220 := Lib.hid (ext_trans B_214.out h_219)
      have F_221 := Lib.hid (F_215.out.ext h_219)
      clear B_214 F_215
      clear h_219
      generalize w_212.heap.size = g_217 at *
      refine wpAnyH_all (rs := [14]) (by kernel_rfl) (by simp) ?_
      intro i hi
      simp only [List.mem_cons, List.not_mem_nil, or_false] at hi
      subst hi
      refine wpOp_of rfl rfl (wp_called (args := #[.agg (encP w20id).toArray, .slice (some ⟨g_217, 0, none⟩) 4 4]) hcM (by simp only [List.map_toArray, List.map_cons, List.map_nil]; rfl) (HM.out w_216 _ P_218.out) ?_)
      rintro e w_222 ⟨_, rfl, p_225, h_223⟩
      have P_224 := Lib.hid p_225
      obtain ⟨⟨A_226, c_227, A_228, c_229, rfl, _, _⟩, _, _⟩ := p_225
      refine ⟨_, rfl, ext_trans B_220.out h_223, ?_⟩
      simp only [Act.put, List.setIfInBounds_toArray, List.set_cons_zero, List.set_cons_succ]
      have B_230 := Lib.hid (ext_trans B_220.out h_223)
      have F_231 := Lib.hid (F_221.out.ext h_223)
      have F_232 := Lib.hid (P_218.out.ext h_223)
      clear B_220 F_221 P_218
      clear h_223
      refine takeV (i := 15) (d := 7) (v := .tuple #[.agg (patC w20p.1 A_226 w20p.2.1.length c_227 A_228 w20p.2.2.length c_229).toArray, .int .i64 0]) rfl (by kernel_rfl) (by kernel_rfl) (by kernel_rfl) (fun _ _ _ h => h) rfl (fun _ _ => exMove (v := .tuple #[.agg (patC w20p.1 A_226 w20p.2.1.length c_227 A_228 w20p.2.2.length c_229).toArray, .int .i64 0]) rfl) B_230.out ?_
      simp only [Act.put, List.setIfInBounds_toArray, List.set_cons_zero, List.set_cons_succ]
      refine takeV (i := 16) (d := 23) (v := .agg (patC w20p.1 A_226 w20p.2.1.length c_227 A_228 w20p.2.2.length c_229).toArray) rfl (by kernel_rfl) (by kernel_rfl) (by kernel_rfl) (fun _ _ _ h => h) rfl (fun _ _ => exExtract (v := .agg (patC w20p.1 A_226 w20p.2.1.length c_227 A_228 w20p.2.2.length c_229).toArray) rfl rfl) B_230.out ?_
      simp only [Act.put, List.setIfInBounds_toArray, List.set_cons_zero, List.set_cons_succ]
      refine takeV (i := 17) (d := 24) (v := .int .i64 0) rfl (by kernel_rfl) (by kernel_rfl) (by kernel_rfl) (fun _ _ _ h => h) rfl (fun _ _ => exExtract (v := .int .i64 0) rfl rfl) B_230.out ?_
      simp only [Act.put, List.setIfInBounds_toArray, List.set_cons_zero, List.set_cons_succ]
      refine wpAnyH_all (rs := [19]) (by kernel_rfl) (by simp) ?_
      intro i hi
      simp only [List.mem_cons, List.not_mem_nil, or_false] at hi
      subst hi
      refine wpOp_of rfl rfl (wp_stored (cs := (patC w20p.1 A_226 w20p.2.1.length c_227 A_228 w20p.2.2.length c_229).toArray) rfl rfl F_231.out (show (Tryz.prog.info? 37).map (·.size) = some ((patC w20p.1 A_226 w20p.2.1.length c_227 A_228 w20p.2.2.length c_229).toArray : Array Value).size from infoPat) rfl patC_one ?_)
      have K_233 := Lib.hid (F_231.out.row (patC w20p.1 A_226 w20p.2.1.length c_227 A_228 w20p.2.2.length c_229).toArray)
      have M_235 := Lib.hid (w20_kept F_231.out rfl P_224.out (patC w20p.1 A_226 w20p.2.1.length c_227 A_228 w20p.2.2.length c_229).toArray)
      have B_234 := Lib.hid (below_setRow B_230.out gz_197.out (patC w20p.1 A_226 w20p.2.1.length c_227 A_228 w20p.2.2.length c_229).toArray)
      refine ⟨B_234.out, ?_⟩
      clear B_230 F_231 F_232 P_224
      generalize (w_222.setRow g_198 (patC w20p.1 A_226 w20p.2.1.length c_227 A_228 w20p.2.2.length c_229).toArray) = w_236 at *
      refine takeV (i := 20) (d := 3) (v := .int .i64 0) rfl (by kernel_rfl) (by kernel_rfl) (by kernel_rfl) (fun _ _ _ h => h) rfl (fun _ _ => exAssign (v := .int .i64 0) rfl) B_234.out ?_
      simp only [Act.put, List.setIfInBounds_toArray, List.set_cons_zero, List.set_cons_succ]
      refine wpAnyH_done (by kernel_rfl) ?_ _
      have BF := Lib.hid (B1.out.trans (B_234.out.mono B1.out.size))
      go_wp2_with fail
      go_meet
      case rel => exact ⟨g_198, _, _, _, _, rfl, rfl, K_233.out, M_235.out, (by rw [hga.out]; exact BF.out)⟩
  case rest =>
    obtain ⟨gp, A, c, A', c', rfl, rfl, KP, PA, bx⟩ := hcut
    obtain ⟨w3, rfl⟩ : ∃ wx, wx = wc := ⟨_, rfl⟩
    rw [hga.out] at bx
    have KP := Lib.hid KP
    have PA := Lib.hid PA
    have B3 := Lib.hid bx
    clear bx HM hcV hcM RA B1
    go_wp2_with fail
    refine (new20_any _).mono ?_
    rintro e w4 ⟨F, g, rfl, hG, hF, b4⟩
    have hG := Lib.hid hG
    have hF3 := Lib.hid hF
    have hgp := Lib.hid KP.out.lt
    have KP := Lib.hid (KP.out.ext b4)
    have PI := Lib.hid (PA.out.in_.ext b4)
    have B4 := Lib.hid (B3.out.trans (b4.mono B3.out.size))
    have HA := Lib.hid (apply20_any hG.out w20p _ PI.out (fun k (h1 : k < w3.heap.size) h2 => Nat.not_lt.2 (hF3.out k h2) h1))
    clear hF b4 PA
    go_wp2_with (refine wpList_load_row rfl 37 _ (by rfl) gp (by rfl) _ _ _ _ KP.out underPat rfl infoPat ?_)
    refine HA.out.mono ?_
    rintro e w5 ⟨rfl, kp, h5⟩
    have hFg : ¬ F gp := fun h => Nat.not_lt.2 (hF3.out gp h) hgp.out
    have KP5 := Lib.hid (KP.out.keep (kp.block gp KP.out.lt hFg))
    have B5 := Lib.hid (B4.out.trans (kp.below (B := w.heap.size) (fun k e => Nat.le_trans B3.out.size (hF3.out k e)) B4.out.size))
    have PA5 : Hid (PatAt w5 (patC w20p.1 A w20p.2.1.length c A' w20p.2.2.length c') w20p) := (PI.out.stay (kp.stay (G := fun k => k < w3.heap.size) fun k _ h1 h2 => Nat.not_lt.2 (hF3.out k h2) h1)).at_
    rw [w20_e.2.1] at h5
    rw [w20_e.1]
    have hG5 := Lib.hid h5
    clear kp h5 HA KP PI hF3 hgp B4 hG hFg B3
    have HV := Lib.hid (fun (u : World) (hu : Below w5.heap.size w5 u) => verts20_any (hG5.out.ext hu) (by decide))
    have HE := Lib.hid (fun (u : World) (hu : Below w5.heap.size w5 u) => edges20_any (hG5.out.ext hu) (by decide))
    have HFi := Lib.hid (fun (u : World) (hu : Below w5.heap.size w5 u) => files20_any (hG5.out.ext hu) (by decide))
    have HC := Lib.hid (fun (u : World) (hu : Below w5.heap.size w5 u) => check20_any (hG5.out.ext hu) w20p _ (PA5.out.ext hu))
    rw [w20_verts] at HV
    rw [w20_edges] at HE
    rw [w20_files] at HFi
    rw [w20_e.2.2] at HC
    go_wp2_with fail
    refine (HV.out w5 (Below.refl _ _)).mono ?_
    rintro e w6 ⟨_, rfl, o6, b6⟩
    obtain ⟨A6, c6, rfl, _⟩ := Sl.of_own o6
    have B6 := Lib.hid b6
    clear o6 b6 HV
    go_wp2_with fail
    refine (HE.out w6 B6.out).mono ?_
    rintro e w7 ⟨_, rfl, o7, b7⟩
    obtain ⟨A7, c7, rfl, _⟩ := Sl.of_own o7
    have B7 := Lib.hid (ext_trans B6.out b7)
    clear o7 b7 HE B6
    go_wp2_with fail
    refine (HFi.out w7 B7.out).mono ?_
    rintro e w8 ⟨_, rfl, o8, b8⟩
    obtain ⟨A8, c8, rfl, _⟩ := Sl.of_own o8
    have B8 := Lib.hid (ext_trans B7.out b8)
    have KP8 := Lib.hid (KP5.out.ext B8.out)
    clear o8 b8 HFi B7
    go_wp2_with (refine wpList_load_rowG (by kernel_rfl) 37 _ (by rfl) gp (by rfl) _ _ _ _ KP8.out underPat rfl infoPat ?_)
    refine (HC.out w8 B8.out).mono ?_
    rintro e w9 ⟨rfl, b9⟩
    have B9 := Lib.hid (B5.out.trans ((ext_trans B8.out b9).mono B5.out.size))
    clear b9 HC B8 KP8 KP5 PA5 hG5 B5
    go_wp2
    go_ret
    exact ⟨rfl, B9.out⟩
end Go.Proofs.YtfnhmbflmifhcaaGreat
