/- A graph: all vertices, those of a file, all files; all steps, those of a file: walked. -/
import Derived.Test.YtihggkmjalofiaaGreatDoorGrk
import Derived.Test.YtihggkmjalofiaaGreatDoorVids
namespace Go.Proofs.YtihggkmjalofiaaGreatDoor
open Go.RowKit

set_option maxRecDepth 100000 in
set_option maxHeartbeats 1000000 in
theorem verts1_any (x : VertV) (w : World) : Calls Tryz.prog 148 #[.agg (encX x).toArray] w (RetB w (.bool true)) := by
  have B0 : Hid (Below w.heap.size w (w.alloc (.cells (encX x).toArray 134))) := below_new _ _
  go_enter Tryz.func148, Tryz.ntmps148
  go_wp2
  go_ret
  exact ⟨rfl, B0.out⟩
set_option maxRecDepth 100000 in
set_option maxHeartbeats 1000000 in
theorem edges1_any (x : VidV) (w : World) : Calls Tryz.prog 150 #[.agg (encV x).toArray] w (RetB w (.bool true)) := by
  have B0 : Hid (Below w.heap.size w (w.alloc (.cells (encV x).toArray 120))) := below_new _ _
  go_enter Tryz.func150, Tryz.ntmps150
  go_wp2
  go_ret
  exact ⟨rfl, B0.out⟩
section
variable {w : World} {F : Nat → Prop} {g : Nat} {L : List PatV}
set_option maxRecDepth 100000 in
set_option maxHeartbeats 1000000 in
theorem verts20_any (hI : GraphAt w F g L) (hfew : L.length ≤ 400) : Calls Tryz.prog 71 #[.pointer (some ⟨g, 0, none⟩)] w (OwnedRet w 134 9 (vertsL L).length ((vertsL L).flatMap encX)) := by
  have HS := some20_any hI hfew (fun _ => true) 148 (enters_of Tryz.func148 (by kernel_rfl) rfl) #[] fun x wr _ => verts1_any x wr
  have e : (vertsL L).filter (fun _ => true) = vertsL L := List.filter_eq_self.2 fun _ _ => rfl
  rw [e] at HS
  have HS := Lib.hid HS
  clear hI
  go_enter Tryz.func71, Tryz.ntmps71
  go_wp2_with fail
  refine HS.out.mono ?_
  rintro e w2 ⟨v, rfl, o, b⟩
  have O := Lib.hid o
  have B := Lib.hid b
  clear o b HS
  go_wp2
  go_ret
  exact ⟨_, rfl, O.out, B.out⟩
set_option maxRecDepth 100000 in
set_option maxHeartbeats 1000000 in
theorem edges20_any (hI : GraphAt w F g L) (hfew : L.length ≤ 400) : Calls Tryz.prog 72 #[.pointer (some ⟨g, 0, none⟩)] w (OwnedRet w 137 6 (edgesL L).length ((edgesL L).flatMap encE)) := by
  have HS := steps20_any hI hfew (fun _ => true) 150 (enters_of Tryz.func150 (by kernel_rfl) rfl) #[] fun x wr _ => edges1_any x wr
  have e : (edgesL L).filter (fun _ => true) = edgesL L := List.filter_eq_self.2 fun _ _ => rfl
  rw [e] at HS
  have HS := Lib.hid HS
  clear hI
  go_enter Tryz.func72, Tryz.ntmps72
  go_wp2_with fail
  refine HS.out.mono ?_
  rintro e w2 ⟨v, rfl, o, b⟩
  have O := Lib.hid o
  have B := Lib.hid b
  clear o b HS
  go_wp2
  go_ret
  exact ⟨_, rfl, O.out, B.out⟩
end
end Go.Proofs.YtihggkmjalofiaaGreatDoor
