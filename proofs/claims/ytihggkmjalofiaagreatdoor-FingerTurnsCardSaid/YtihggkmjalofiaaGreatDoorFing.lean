/- A vertex's name as a number; whether it is dead. -/
import Derived.Test.YtihggkmjalofiaaGreatDoorFinc
import Derived.Test.YtihggkmjalofiaaGreatDoorPcds
import Derived.Test.YtihggkmjalofiaaGreatDoorVids
import Derived.Test.YtihggkmjalofiaaGreatDoorGras
namespace Go.Proofs.YtihggkmjalofiaaGreatDoor
open Go.RowKit

set_option maxRecDepth 100000 in
set_option maxHeartbeats 4000000 in
theorem fpack_any (x : VidV) (w : World) : Calls Tryz.prog 73 #[.agg (encV x).toArray] w (RetB w (.int .u64 ((packN x : Nat) : Int))) := by
  have HP0 : Calls Tryz.prog 151 #[.agg (encV x).toArray] (w.alloc (.cells (encV x).toArray 120)) (RetB (w.alloc (.cells (encV x).toArray 120)) (.int .u32 (keyV x))) := (vpackG x _).mono fun _ _ => RetB.ofG
  have HP := Lib.hid HP0
  clear HP0
  have hl := packN_lt x
  have hk : Hid (keyV x = ((packN x : Nat) : Int)) := key_pack x
  rw [hk.out] at HP
  have e : IntKind.u64.wrap ((packN x : Nat) : Int) = ((packN x : Nat) : Int) := IntWalk.u64_in _ (by omega)
  generalize packN x = q at *
  have K0 : Hid (Blk (w.alloc (.cells (encV x).toArray 120)) w.heap.size 120 (encV x).toArray) := Blk.new _ _ _
  have B0 : Hid (Below w.heap.size w (w.alloc (.cells (encV x).toArray 120))) := below_new _ _
  go_enter Tryz.func73, Tryz.ntmps73
  go_wp2_with (refine wpList_load_row rfl 120 _ (by rfl) w.heap.size (by rfl) _ _ _ _ K0.out underVid rfl infoVid ?_)
  refine HP.out.mono ?_
  rintro e2 w2 ⟨rfl, b2⟩
  have B2 := Lib.hid (B0.out.trans (b2.mono B0.out.size))
  clear b2 HP K0 B0
  go_wp2_with fail
  go_ret
  exact ⟨rfl, B2.out⟩
/-- 1 of a vertex that is dead -/
def deadN (x : VertV) : Nat := if x.2.2.2.2 = true then 1 else 0
set_option maxRecDepth 100000 in
set_option maxHeartbeats 4000000 in
theorem fdead_any (x : VertV) (w : World) : Calls Tryz.prog 74 #[.agg (encX x).toArray] w (RetB w (.int .u64 ((deadN x : Nat) : Int))) := by
  have K0 : Hid (Blk (w.alloc (.cells (encX x).toArray 134)) w.heap.size 134 (encX x).toArray) := Blk.new _ _ _
  have B0 : Hid (Below w.heap.size w (w.alloc (.cells (encX x).toArray 134))) := below_new _ _
  obtain ⟨a, k, f, t, d⟩ := x
  have y8 : (w.alloc (.cells (encX (a, k, f, t, d)).toArray 134)).cell? ⟨w.heap.size, 8, none⟩ = some (.bool d) := K0.out.cell 8
  go_enter Tryz.func74, Tryz.ntmps74
  cases d
  · go_wp2_with fail
    go_ret
    exact ⟨rfl, B0.out⟩
  · go_wp2_with fail
    go_ret
    exact ⟨rfl, B0.out⟩
end Go.Proofs.YtihggkmjalofiaaGreatDoor
