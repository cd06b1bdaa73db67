/- The chapter's example of a pool: walked. -/
import Derived.Test.YtnhbbggpgieipaaGreatPoolw
import Derived.Test.YtnhbbggpgieipaaGreatIdxh
namespace Go.Proofs.YtnhbbggpgieipaaGreat
open Go.RowKit

theorem w32_e : polE 3 [] w31b = 0 ∧ polL 3 [] w31b = [w31b] := ⟨by kernel_rfl, by kernel_rfl⟩
theorem w32_r1 : readyL w31v [w31b] = some w31b := by kernel_rfl
theorem w32_r0 : readyL vec0 [w31b] = none := by kernel_rfl
theorem w32_room : roomV 3 = 3 := by kernel_rfl
set_option maxRecDepth 100000 in
set_option maxHeartbeats 4000000 in
theorem works32 (w : World) : Calls Tryz.prog 6 #[] w (RetB w (.bool true)) := by
  go_enter Tryz.func6, Tryz.ntmps6
  go_wp2_with fail
  refine (newPl_any 3 w).mono ?_
  rintro e w1 ⟨g, rfl, hP, b1⟩
  rw [w32_room] at hP
  have HP := Lib.hid hP
  have B1 := Lib.hid b1
  clear hP b1
  have K2 : Hid (Blk ((w1.alloc (.cells #[.int .u8 0, .int .u16 0] 33)).setRow w1.heap.size (encP (1, 1)).toArray) w1.heap.size 33 (encP (1, 1)).toArray) := (Blk.new _ _ _).row _
  have M2 : Hid (Below w1.heap.size w1 ((w1.alloc (.cells #[.int .u8 0, .int .u16 0] 33)).setRow w1.heap.size (encP (1, 1)).toArray)) := below_setRow ((Below.refl _ _).alloc (Nat.le_refl _) _) (Nat.le_refl _) _
  have i2 : (encP (1, 1)).toArray.all (·.oneCell') = true := by simp [encP, Value.oneCell']
  go_upto_region 3 with (first
    | (refine wpList_built (buildP11 _) (by rfl) ?_)
    | (refine wpList_alloced (allocPI _) ?_)
    | (refine wpList_store_row rfl 33 _ _ (by rfl) w1.heap.size (encP (1, 1)).toArray (by rfl) (by rfl) _ _ (Blk.new _ _ _) infoPid rfl i2 ?_))
  have HP := Lib.hid (HP.out.ext M2.out)
  have B2 := Lib.hid (B1.out.trans (M2.out.mono B1.out.size))
  clear M2
  generalize ((w1.alloc (.cells #[.int .u8 0, .int .u16 0] 33)).setRow w1.heap.size (encP (1, 1)).toArray) = w2 at *
  generalize hga : w1.heap.size = ga at *
  have R2 := Lib.hid K2.out.range
  have P4 : Hid (PidsAt (w2.alloc (.cells (encP (1, 1)).toArray 33)) (some ⟨w2.heap.size, 0, none⟩) 1 [(1, 1)]) := ⟨rfl, sl_fresh w2 _ 33 2 1 _ rfl rfl⟩
  have B4 : Hid (Below w2.heap.size w2 (w2.alloc (.cells (encP (1, 1)).toArray 33))) := below_new _ _
  go_wp2_with (first
    | (refine wpList_built (buildP12 _) (by rfl) ?_)
    | (refine wpList_load_mid rfl 33 _ (by rfl) ga 0 (by rfl) _ _ R2.out underPid rfl infoPid ?_)
    | (refine wpList_lit1 pidSl (cs := encP (1, 1)) rfl (by omega) (by rfl) ?_; generalize hgp : w2.heap.size = gp at *; generalize (w2.alloc (.cells (encP (1, 1)).toArray 33)) = w4 at *; have O5 := Lib.hid (w31_ops w4); have B5 : Hid (Below w4.heap.size w4 (w4.alloc (.cells (encO w31o).toArray 78))) := below_new _ _)
    | (refine wpList_built (buildO31 _) (by rfl) ?_)
    | (refine wpList_lit1 opSl (cs := encO w31o) rfl (by omega) (by rfl) ?_; generalize hgq : w4.heap.size = gq at *; generalize (w4.alloc (.cells (encO w31o).toArray 78)) = w5 at *)
    | (refine wpList_built (buildB31 _ _ _) (by rfl) ?_))
  have PB : Hid (PatAt w5 (patC (1, 2) (some ⟨gp, 0, none⟩) 1 1 (some ⟨gq, 0, none⟩) 1 1) w31b) := ⟨⟨some ⟨gp, 0, none⟩, 1, some ⟨gq, 0, none⟩, 1, rfl, P4.out.ext (by rw [hgq]; exact B5.out), O5.out⟩, by decide, by decide⟩
  have B25 : Hid (Below w2.heap.size w2 w5) := by
    rw [hgp]
    exact B4.out.trans (B5.out.mono (by rw [← hgp, ← hgq]; exact B4.out.size))
  have HP := Lib.hid (HP.out.ext B25.out)
  have B5w := Lib.hid (B2.out.trans (B25.out.mono B2.out.size))
  clear P4 O5 B4 B5 B25 R2
  refine (putPl_any HP.out (by decide) w31b _ PB.out ⟨by decide, by decide⟩).mono ?_
  rintro e w6 ⟨rfl, kp, F, hF, hFB⟩
  rw [w32_e.1]
  rw [w32_e.2] at hF
  have B6 := Lib.hid (B5w.out.trans (kp.below (fun k e => e.1) B5w.out.size))
  have HP := Lib.hid hF
  have HPw : Hid (∀ k, F k → w.heap.size ≤ k) := fun k e => (hFB k e).elim (fun e => e.1) (fun e => Nat.le_trans B5w.out.size e)
  clear kp hF hFB B5w PB
  have HR := Lib.hid (readyPl_any HP.out w31v w31v_ok)
  go_wp2_with (refine wpList_built (build_w31v _) (by rfl) ?_)
  refine HR.out.mono ?_
  rintro e w7 ⟨r, rfl, pr, b7⟩
  rw [w32_r1] at pr ⊢
  obtain ⟨⟨A1, c1, A2, c2, rfl, _, _, _, _⟩, _, _⟩ := pr
  have HP := Lib.hid (HP.out.ext b7)
  have B7 := Lib.hid (B6.out.trans (b7.mono B6.out.size))
  clear b7 HR B6
  have K8 : Hid (Blk ((w7.alloc (.cells #[.int .u8 0, .int .u16 0, .slice none 0 0, .slice none 0 0] 37)).setRow w7.heap.size (patC w31b.1 A1 w31b.2.1.length c1 A2 w31b.2.2.length c2).toArray) w7.heap.size 37 (patC w31b.1 A1 w31b.2.1.length c1 A2 w31b.2.2.length c2).toArray) := (Blk.new _ _ _).row _
  have M8 : Hid (Below w7.heap.size w7 ((w7.alloc (.cells #[.int .u8 0, .int .u16 0, .slice none 0 0, .slice none 0 0] 37)).setRow w7.heap.size (patC w31b.1 A1 w31b.2.1.length c1 A2 w31b.2.2.length c2).toArray)) := below_setRow ((Below.refl _ _).alloc (Nat.le_refl _) _) (Nat.le_refl _) _
  go_upto_region 5 with (first
    | (refine wpList_alloced (allocPat _) ?_)
    | (refine wpList_store_row rfl 37 _ _ (by rfl) w7.heap.size (patC w31b.1 A1 w31b.2.1.length c1 A2 w31b.2.2.length c2).toArray (by rfl) (by rfl) _ _ (Blk.new _ _ _) infoPat rfl patC_one ?_))
  have HP := Lib.hid (HP.out.ext M8.out)
  have B8 := Lib.hid (B7.out.trans (M8.out.mono B7.out.size))
  clear M8 B7
  generalize ((w7.alloc (.cells #[.int .u8 0, .int .u16 0, .slice none 0 0, .slice none 0 0] 37)).setRow w7.heap.size (patC w31b.1 A1 w31b.2.1.length c1 A2 w31b.2.2.length c2).toArray) = w8 at *
  generalize w7.heap.size = g8 at *
  have HR := Lib.hid (readyPl_any HP.out vec0 vec0_ok)
  go_wp2_with (refine wpList_built (buildVec0 _) (by rfl) ?_)
  refine HR.out.mono ?_
  rintro e w9 ⟨r, rfl, pr, b9⟩
  rw [w32_r0] at pr ⊢
  obtain ⟨⟨A3, c3, A4, c4, rfl, _, _, _, _⟩, _, _⟩ := pr
  have HP := Lib.hid (HP.out.ext b9)
  have K9 := Lib.hid (K8.out.ext b9)
  have B9 := Lib.hid (B8.out.trans (b9.mono B8.out.size))
  clear b9 HR B8 K8
  have M10 : Hid (Below w9.heap.size w9 ((w9.alloc (.cells #[.int .u8 0, .int .u16 0, .slice none 0 0, .slice none 0 0] 37)).setRow w9.heap.size (patC zeroPat.1 A3 zeroPat.2.1.length c3 A4 zeroPat.2.2.length c4).toArray)) := below_setRow ((Below.refl _ _).alloc (Nat.le_refl _) _) (Nat.le_refl _) _
  go_upto_region 6 with (first
    | (refine wpList_alloced (allocPat _) ?_)
    | (refine wpList_store_row rfl 37 _ _ (by rfl) w9.heap.size (patC zeroPat.1 A3 zeroPat.2.1.length c3 A4 zeroPat.2.2.length c4).toArray (by rfl) (by rfl) _ _ (Blk.new _ _ _) infoPat rfl patC_one ?_))
  have HP := Lib.hid (HP.out.ext M10.out)
  have K10 := Lib.hid (K9.out.ext M10.out)
  have B10 := Lib.hid (B9.out.trans (M10.out.mono B9.out.size))
  clear M10 B9 K9
  generalize ((w9.alloc (.cells #[.int .u8 0, .int .u16 0, .slice none 0 0, .slice none 0 0] 37)).setRow w9.heap.size (patC zeroPat.1 A3 zeroPat.2.1.length c3 A4 zeroPat.2.2.length c4).toArray) = w10 at *
  have z1 : w10.cell? ⟨g8, 1, none⟩ = some (.int .u16 2) := K10.out.cell 1
  have HN := Lib.hid (lenPl_any HP.out)
  go_wp2_with fail
  refine HN.out.mono ?_
  rintro e w11 ⟨rfl, b11⟩
  have HP := Lib.hid (HP.out.ext b11)
  have B11 := Lib.hid (B10.out.trans (b11.mono B10.out.size))
  clear b11 HN z1
  have HO := Lib.hid (roomPl_any HP.out)
  go_wp2_with fail
  refine HO.out.mono ?_
  rintro e w12 ⟨rfl, b12⟩
  have B12 := Lib.hid (B11.out.trans (b12.mono B11.out.size))
  clear b12 HO
  go_wp2
  go_ret
  exact ⟨rfl, B12.out⟩
end Go.Proofs.YtnhbbggpgieipaaGreat
