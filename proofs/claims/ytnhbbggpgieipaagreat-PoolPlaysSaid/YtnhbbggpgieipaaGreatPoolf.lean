/- A pool's hint: walked. -/
import Derived.Test.YtnhbbggpgieipaaGreatPoole
import Derived.Test.YtnhbbggpgieipaaGreatHints
namespace Go.Proofs.YtnhbbggpgieipaaGreat
open Go.RowKit

set_option maxRecDepth 100000 in
set_option maxHeartbeats 1000000 in
theorem bloomPl_any {w : World} {F : Nat → Prop} {g : Nat} {room : Int} {L : List PatV} (hP : PoolAt w F g room L) : Calls Tryz.prog 21 #[.pointer (some ⟨g, 0, none⟩)] w (RetB w (.agg (encBl (ofN (idsV L))).toArray)) := by
  have K0 : Hid (Blk (w.alloc (.cells #[.int .u64 0, .int .u64 0, .int .u64 0, .int .u64 0] 60)) w.heap.size 60 #[.int .u64 0, .int .u64 0, .int .u64 0, .int .u64 0]) := Blk.new _ _ _
  have B0 : Hid (Below w.heap.size w (w.alloc (.cells #[.int .u64 0, .int .u64 0, .int .u64 0, .int .u64 0] 60))) := below_new _ _
  have HP := Lib.hid (hP.ext B0.out)
  have hfew := hP.few
  have hgr : Hid (w.heap.size ≤ w.heap.size) := Nat.le_refl _
  clear hP
  go_enter Tryz.func21, Tryz.ntmps21
  go_upto_region 1 with fail
  generalize (w.alloc (.cells #[.int .u64 0, .int .u64 0, .int .u64 0, .int .u64 0] 60)) = w1 at *
  generalize hgg : w.heap.size = gr at K0 ⊢
  have HI := Lib.hid (ids_any HP.out)
  go_wp2_with fail
  refine HI.out.mono ?_
  rintro e w2 ⟨v, rfl, o1, b1⟩
  obtain ⟨A, c, rfl, _, ps⟩ := PidsAt.of_own o1 (by simp [idsV])
  have HB := Lib.hid (of13_any (idsV L) w2 A L.length c ps (by unfold maxLen; omega))
  have B2 := Lib.hid (B0.out.trans (b1.mono B0.out.size))
  have K2 := Lib.hid (K0.out.ext b1)
  clear o1 b1 ps HI K0 B0 HP
  go_wp2_with fail
  refine HB.out.mono ?_
  rintro e w3 ⟨rfl, b3⟩
  have B3 := Lib.hid (B2.out.trans (b3.mono B2.out.size))
  have K3 := Lib.hid (K2.out.ext b3)
  clear b3 HB B2 K2
  obtain ⟨ya, yb, yc, yd, hy⟩ := blOk_four (ofN_ok (idsV L))
  rw [hy]
  have HO : Hid ((encBl [ya, yb, yc, yd]).toArray.all (·.oneCell') = true) := bl_one
  have HI : Hid ((Tryz.prog.info? 60).map (·.size) = some ((encBl [ya, yb, yc, yd]).toArray : Array Value).size) := infoBl
  have KR := Lib.hid (K3.out.row (encBl [ya, yb, yc, yd]).toArray)
  have BB := Lib.hid (below_setRow B3.out (by rw [hgg]; exact Nat.le_refl _) (encBl [ya, yb, yc, yd]).toArray (g := gr))
  go_wp2_with (refine wpList_store_row rfl 60 _ _ (by rfl) gr (encBl [ya, yb, yc, yd]).toArray (by rfl) (by rfl) _ _ K3.out HI.out rfl HO.out ?_)
  generalize (w3.setRow gr (encBl [ya, yb, yc, yd]).toArray) = w5 at *
  have z0 := KR.out.cell 0
  have z1 := KR.out.cell 1
  have z2 := KR.out.cell 2
  have z3 := KR.out.cell 3
  simp [encBl] at z0 z1 z2 z3
  refine bodyPost_ret (v := .agg (encBl [ya, yb, yc, yd]).toArray) ?_ rfl ⟨by rw [hy], BB.out⟩
  simp [results, Tryz.results21, go_sem, z0, z1, z2, z3, encBl]
end Go.Proofs.YtnhbbggpgieipaaGreat
