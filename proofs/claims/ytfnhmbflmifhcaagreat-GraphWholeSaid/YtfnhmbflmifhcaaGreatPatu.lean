/- A vertex' name; the chapter's example of patches: walked. -/
import Derived.Test.YtfnhmbflmifhcaaGreatPatt
import Derived.Test.YtfnhmbflmifhcaaGreatGen
namespace Go.Proofs.YtfnhmbflmifhcaaGreat
open Go.RowKit

def vidOf (id : PidV) (i : Int) : VidV := (id, ⟨(i % 256).toNat, by omega⟩)
theorem vidOf_enc (id : PidV) (i : Int) : encV (vidOf id i) = [.int .u8 ((id.1.val : Nat) : Int), .int .u16 ((id.2.val : Nat) : Int), .int .u8 (i % 256)] := by
  have : (((i % 256).toNat : Nat) : Int) = i % 256 := by omega
  simp [encV, vidOf, this]
set_option maxRecDepth 100000 in
set_option maxHeartbeats 1000000 in
theorem vid18_any (id : PidV) (i : Int) (w : World) : Calls Tryz.prog 62 #[.agg (encP id).toArray, .int .i64 i] w (RetB w (.agg (encV (vidOf id i)).toArray)) := by
  rw [vidOf_enc]
  have hcs : (encP id).toArray = #[.int .u8 ((id.1.val : Nat) : Int), .int .u16 ((id.2.val : Nat) : Int)] := rfl
  rw [hcs]
  generalize ((id.1.val : Nat) : Int) = a
  generalize ((id.2.val : Nat) : Int) = s
  clear hcs
  go_enter Tryz.func62, Tryz.ntmps62
  go_wp2
  refine bodyPost_ret (v := .agg #[.int .u8 a, .int .u16 s, .int .u8 (i % 256)]) (by simp [results, Tryz.results62, go_sem]) rfl ⟨rfl, ?_⟩
  exact ((Below.refl _ _).alloc (Nat.le_refl _) _).alloc (by simp) _
def vid0 : VidV := ((0, 0), 0)
theorem ops_new (w : World) (l : List OpV) (ho : ∀ o ∈ l, OpV.ok o) : OpsAt (w.alloc (.cells (l.flatMap encO).toArray 110)) (some ⟨w.heap.size, 0, none⟩) l.length l :=
  ⟨rfl, sl_fresh w _ 110 8 l.length _ (flatMap_len encO l (fun o _ => encO_len o)) rfl, ho⟩
end Go.Proofs.YtfnhmbflmifhcaaGreat
