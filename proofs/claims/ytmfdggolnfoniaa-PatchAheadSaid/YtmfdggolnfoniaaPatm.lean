/- Of which kind a vertex of a patch's own is: the program's, walked. -/
import Derived.Test.YtmfdggolnfoniaaPatk
namespace Go.Proofs.Ytmfdggolnfoniaa
open Go.RowKit

def kindV (p : PatV) (v : VidV) : Nat × Bool := if v.1 = p.1 then (match p.2.2[v.2.val]? with | some o => (o.1.val, true) | none => (0, false)) else (0, false)
set_option maxRecDepth 100000 in
set_option maxHeartbeats 600000 in
theorem kind_any (p : PatV) (v : VidV) (w : World) (cs : List Value) (hp : PatAt w cs p) : Calls Try.prog 55 #[.agg cs.toArray, .agg (encV v).toArray] w (RetB w (.tuple #[.int .u8 ((kindV p v).1 : Nat), .bool (kindV p v).2])) := by
  obtain ⟨⟨A, c, A', c', rfl, P1, O1⟩, m1, m2⟩ := hp
  have K1 : Hid (Blk ((w.alloc (.cells (patC p.1 A p.2.1.length c A' p.2.2.length c').toArray 37)).alloc (.cells (encV v).toArray 49)) w.heap.size 37 (patC p.1 A p.2.1.length c A' p.2.2.length c').toArray) := (Blk.new _ _ _).alloc _
  have K2 : Hid (Blk ((w.alloc (.cells (patC p.1 A p.2.1.length c A' p.2.2.length c').toArray 37)).alloc (.cells (encV v).toArray 49)) (w.heap.size + 1) 49 (encV v).toArray) := Blk.newAt (by simp) _ _
  have B0 : Hid (Below w.heap.size w ((w.alloc (.cells (patC p.1 A p.2.1.length c A' p.2.2.length c').toArray 37)).alloc (.cells (encV v).toArray 49))) := ((Below.refl _ _).alloc (Nat.le_refl _) _).alloc (by simp) _
  go_enter Try.func55, Try.ntmps55
  go_upto_region 1 with fail
  generalize ((w.alloc (.cells (patC p.1 A p.2.1.length c A' p.2.2.length c').toArray 37)).alloc (.cells (encV v).toArray 49)) = w2 at *
  have O1 := Lib.hid (O1.ext B0.out)
  have a0 : w2.cell? ⟨w.heap.size, 0, none⟩ = some (.int .u8 ((p.1.1.val : Nat) : Int)) := K1.out.cell 0
  have a1 : w2.cell? ⟨w.heap.size, 1, none⟩ = some (.int .u16 ((p.1.2.val : Nat) : Int)) := K1.out.cell 1
  have b0 : w2.cell? ⟨w.heap.size + 1, 0, none⟩ = some (.int .u8 ((v.1.1.val : Nat) : Int)) := K2.out.cell 0
  have b1 : w2.cell? ⟨w.heap.size + 1, 1, none⟩ = some (.int .u16 ((v.1.2.val : Nat) : Int)) := K2.out.cell 1
  have a3 : w2.cell? ⟨w.heap.size, 3, none⟩ = some (.slice A' p.2.2.length c') := K1.out.cell 3
  have b2 : w2.cell? ⟨w.heap.size + 1, 2, none⟩ = some (.int .u8 ((v.2.val : Nat) : Int)) := K2.out.cell 2
  clear K1 K2 P1
  generalize w.heap.size + 1 = g2 at *
  generalize w.heap.size = g1 at a0 a1 a3 ⊢
  have NE := fun u => neqP v.1 p.1 u
  have hm2 := m2
  unfold maxLen at hm2
  have n0 : 0 ≤ ((v.2.val : Nat) : Int) := by omega
  have n1 : ((v.2.val : Nat) : Int) < 256 := by have := v.2.isLt; omega
  by_cases e : v.1 = p.1
  · have NE' : ∀ u : World, (binOp .neq 33 (.agg #[.int .u8 ((v.1.1.val : Nat) : Int), .int .u16 ((v.1.2.val : Nat) : Int)]) (.agg #[.int .u8 ((p.1.1.val : Nat) : Int), .int .u16 ((p.1.2.val : Nat) : Int)])).run Try.prog u = .ok (.bool false) u := fun u => (NE u).trans (by rw [decide_eq_true e]; rfl)
    have F : Hid ((match p.2.2[v.2.val]? with | some o => (o.1.val, true) | none => (0, false)) = kindV p v) := by unfold kindV; rw [if_pos e]; rfl
    clear NE e
    generalize ((p.1.1.val : Nat) : Int) = pa at a0 NE'
    generalize ((p.1.2.val : Nat) : Int) = ps at a1 NE'
    generalize ((v.1.1.val : Nat) : Int) = va at b0 NE'
    generalize ((v.1.2.val : Nat) : Int) = vs at b1 NE'
    by_cases hlt : v.2.val < p.2.2.length
    · obtain ⟨b, o, x, rfl, hb, hx, R3, hok⟩ := O1.out.at_ hlt
      rw [hx] at F
      have t7 : w2.cell? ⟨b, o + v.2.val * 8, none⟩ = some (.int .u8 ((x.1.val : Nat) : Int)) := R3 0 _ rfl
      have hl : ((v.2.val : Nat) : Int) < (p.2.2.length : Int) := by omega
      have F : Hid ((x.1.val, true) = kindV p v) := F.out
      clear hx R3 hok
      generalize v.2.val = nv at *
      generalize x.1.val = kx at *
      go_wp2
      refine bodyPost_ret (v := (.tuple #[.int .u8 (kx : Int), .bool true])) ?_ rfl ⟨by rw [← F.out], B0.out⟩
      simp [results, Try.results55, go_sem]
    · rw [List.getElem?_eq_none (by omega)] at F
      have hl : decide (((v.2.val : Nat) : Int) < (p.2.2.length : Int)) = false := decide_eq_false (by omega)
      have hl2 : decide (v.2.val < p.2.2.length) = false := decide_eq_false hlt
      have hl3 : decide ((p.2.2.length : Int) ≤ ((v.2.val : Nat) : Int)) = true := decide_eq_true (by omega)
      have hl4 : decide (p.2.2.length ≤ v.2.val) = true := decide_eq_true (by omega)
      have F : Hid ((0, false) = kindV p v) := F.out
      generalize v.2.val = nv at *
      go_wp2
      refine bodyPost_ret (v := (.tuple #[.int .u8 0, .bool false])) ?_ rfl ⟨by rw [← F.out]; rfl, B0.out⟩
      simp [results, Try.results55, go_sem]
  · have NE' : ∀ u : World, (binOp .neq 33 (.agg #[.int .u8 ((v.1.1.val : Nat) : Int), .int .u16 ((v.1.2.val : Nat) : Int)]) (.agg #[.int .u8 ((p.1.1.val : Nat) : Int), .int .u16 ((p.1.2.val : Nat) : Int)])).run Try.prog u = .ok (.bool true) u := fun u => (NE u).trans (by rw [decide_eq_false e]; rfl)
    have F : Hid ((0, false) = kindV p v) := by unfold kindV; rw [if_neg e]; rfl
    clear NE e
    generalize ((p.1.1.val : Nat) : Int) = pa at a0 NE'
    generalize ((p.1.2.val : Nat) : Int) = ps at a1 NE'
    generalize ((v.1.1.val : Nat) : Int) = va at b0 NE'
    generalize ((v.1.2.val : Nat) : Int) = vs at b1 NE'
    go_wp2
    refine bodyPost_ret (v := (.tuple #[.int .u8 0, .bool false])) ?_ rfl ⟨by rw [← F.out]; rfl, B0.out⟩
    simp [results, Try.results55, go_sem]
end Go.Proofs.Ytmfdggolnfoniaa
