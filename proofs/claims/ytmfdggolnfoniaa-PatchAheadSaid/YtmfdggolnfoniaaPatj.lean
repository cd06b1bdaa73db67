/- Whether a patch is small; of which kind a vertex of its own is: walked. -/
import Derived.Test.YtmfdggolnfoniaaPath
namespace Go.Proofs.Ytmfdggolnfoniaa
open Go.RowKit

def fewP (p : PatV) : Bool := decide (p.2.1.length ≤ 100) && (decide (p.2.2.length ≤ 260) && p.2.2.all fun o => decide (o.2.2.2.size ≤ 200))
def fewN (p : PatV) : Int := if fewP p = true then 1 else 0
theorem fewN_true {p : PatV} (h : fewP p = true) : fewN p = 1 := by unfold fewN; rw [if_pos h]
theorem fewN_false {p : PatV} (h : fewP p = false) : fewN p = 0 := by unfold fewN; rw [if_neg (by simp [h])]
theorem allO_snoc {l : List OpV} {f : OpV → Bool} {k : Nat} {x : OpV} (h : l[k]? = some x) (hk : (l.take k).all f = true) (hx : f x = true) : (l.take (k + 1)).all f = true := by
  rw [take_snoc' h, List.all_append, hk]; simp [hx]
theorem allO_false {l : List OpV} {f : OpV → Bool} {k : Nat} {x : OpV} (h : l[k]? = some x) (hx : f x = false) : l.all f = false := by
  rw [List.all_eq_false]; exact ⟨x, List.mem_of_getElem? h, by simp [hx]⟩
set_option maxRecDepth 100000 in
set_option maxHeartbeats 4000000 in
theorem few18_any (p : PatV) (w : World) (cs : List Value) (hp : PatAt w cs p) : Calls Try.prog 13 #[.agg cs.toArray] w (RetB w (.int .i64 (fewN p))) := by
  obtain ⟨⟨A, c, A', c', rfl, P1, O1⟩, m1, m2⟩ := hp
  have K1 : Hid (Blk (w.alloc (.cells (patC p.1 A p.2.1.length c A' p.2.2.length c').toArray 37)) w.heap.size 37 (patC p.1 A p.2.1.length c A' p.2.2.length c').toArray) := Blk.new _ _ _
  have B0 : Hid (Below w.heap.size w (w.alloc (.cells (patC p.1 A p.2.1.length c A' p.2.2.length c').toArray 37))) := below_new _ _
  go_enter Try.func13, Try.ntmps13
  go_upto_region 1 with fail
  generalize (w.alloc (.cells (patC p.1 A p.2.1.length c A' p.2.2.length c').toArray 37)) = w2 at *
  have O1 := Lib.hid (O1.ext B0.out)
  have a2 : w2.cell? ⟨w.heap.size, 2, none⟩ = some (.slice A p.2.1.length c) := K1.out.cell 2
  have a3 : w2.cell? ⟨w.heap.size, 3, none⟩ = some (.slice A' p.2.2.length c') := K1.out.cell 3
  clear P1 K1
  by_cases h1 : p.2.1.length ≤ 100
  · have d1 : ¬ (100 < (p.2.1.length : Int)) := by omega
    by_cases h2 : p.2.2.length ≤ 260
    · have d2 : ¬ (260 < (p.2.2.length : Int)) := by omega
      have F : Hid ((p.2.2.all fun o => decide (o.2.2.2.size ≤ 200)) = fewP p) := by unfold fewP; rw [decide_eq_true h1, decide_eq_true h2]; rfl
      go_wp2_with fail
      go_loop [3] (fun i => ∃ k : Nat, k ≤ p.2.2.length ∧ i = .int .i64 k ∧ Hid (((p.2.2.take k).all fun o => decide (o.2.2.2.size ≤ 200)) = true)) (fun i => p.2.2.length - (intOf i).toNat)
      case atStart => exact ⟨0, by omega, rfl, rfl⟩
      case round =>
        obtain ⟨k, hk, rfl, T⟩ := hrel
        have hk0 : (0 : Int) ≤ (k : Int) := by omega
        by_cases hlt : k < p.2.2.length
        · obtain ⟨b, o, x, rfl, hb, hx, R3, hok⟩ := O1.out.at_ hlt
          have t7 : w2.cell? ⟨b, o + k * 8 + 7, none⟩ = some (.string x.2.2.2) := R3 7 _ rfl
          have hlk : (k : Int) < (p.2.2.length : Int) := by omega
          by_cases ht : x.2.2.2.size ≤ 200
          · have dt : ¬ (200 < (x.2.2.2.size : Int)) := by omega
            have N := Lib.hid (allO_snoc hx T.out (decide_eq_true ht))
            clear T hx R3
            go_wp2_with fail
            go_round
            case rel => exact ⟨k + 1, by omega, by go_num, N.out⟩
            case measure => simp [intOf]; omega
          · have dt : 200 < (x.2.2.2.size : Int) := by omega
            have N := Lib.hid (allO_false (f := fun o => decide (o.2.2.2.size ≤ 200)) hx (decide_eq_false ht))
            clear T hx R3
            go_wp2
            go_ret
            exact ⟨ret_int (fewN_false (F.out.symm.trans N.out)).symm, B0.out⟩
        · have hlk : ¬ ((k : Int) < (p.2.2.length : Int)) := by omega
          rw [List.take_of_length_le (by omega)] at T
          go_wp2
          go_ret
          exact ⟨ret_int (fewN_true (F.out.symm.trans T.out)).symm, B0.out⟩
    · have d2 : 260 < (p.2.2.length : Int) := by omega
      have F : Hid (fewP p = false) := by unfold fewP; rw [decide_eq_false h2]; simp [Hid]
      go_wp2
      go_ret
      exact ⟨ret_int (fewN_false F.out).symm, B0.out⟩
  · have d1 : 100 < (p.2.1.length : Int) := by omega
    have F : Hid (fewP p = false) := by unfold fewP; rw [decide_eq_false h1]; rfl
    go_wp2
    go_ret
    exact ⟨ret_int (fewN_false F.out).symm, B0.out⟩
end Go.Proofs.Ytmfdggolnfoniaa
