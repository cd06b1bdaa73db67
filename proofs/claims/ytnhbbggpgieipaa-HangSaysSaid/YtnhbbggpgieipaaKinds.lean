/- Texts of general use, one behind another. -/
import Derived.Test.YtnhbbggpgieipaaOps

/- Whether a patch is small; of which kind a vertex of its own is: walked. -/
namespace Go.Proofs.Ytnhbbggpgieipaa
open Go.RowKit

def fewP (p : PatV) : Bool := decide (p.2.1.length ≤ 100) && (decide (p.2.2.length ≤ 260) && p.2.2.all fun o => decide (o.2.2.2.size ≤ 200))
def fewN (p : PatV) : Int := if fewP p = true then 1 else 0
theorem fewN_true {p : PatV} (h : fewP p = true) : fewN p = 1 := by unfold fewN; rw [if_pos h]
theorem fewN_false {p : PatV} (h : fewP p = false) : fewN p = 0 := by unfold fewN; rw [if_neg (by simp [h])]
theorem allO_snoc {l : List OpV} {f : OpV → Bool} {k : Nat} {x : OpV} (h : l[k]? = some x) (hk : (l.take k).all f = true) (hx : f x = true) : (l.take (k + 1)).all f = true := by
  rw [take_snoc' h, List.all_append, hk]; simp [hx]
theorem allO_false {l : List OpV} {f : OpV → Bool} {k : Nat} {x : OpV} (h : l[k]? = some x) (hx : f x = false) : l.all f = false := by
  rw [List.all_eq_false]; exact ⟨x, List.mem_of_getElem? h, by simp [hx]⟩
set_option maxRecDepth 100000 in
set_option maxHeartbeats 4000000 in
theorem few18_any (p : PatV) (w : World) (cs : List Value) (hp : PatAt w cs p) : Calls Try.prog 56 #[.agg cs.toArray] w (RetB w (.int .i64 (fewN p))) := by
  obtain ⟨⟨A, c, A', c', rfl, P1, O1⟩, m1, m2⟩ := hp
  have K1 : Hid (Blk (w.alloc (.cells (patC p.1 A p.2.1.length c A' p.2.2.length c').toArray 45)) w.heap.size 45 (patC p.1 A p.2.1.length c A' p.2.2.length c').toArray) := Blk.new _ _ _
  have B0 : Hid (Below w.heap.size w (w.alloc (.cells (patC p.1 A p.2.1.length c A' p.2.2.length c').toArray 45))) := below_new _ _
  go_enter Try.func56, Try.ntmps56
  go_upto_region 1 with fail
  generalize (w.alloc (.cells (patC p.1 A p.2.1.length c A' p.2.2.length c').toArray 45)) = w2 at *
  have O1 := Lib.hid (O1.ext B0.out)
  have a2 : w2.cell? ⟨w.heap.size, 2, none⟩ = some (.slice A p.2.1.length c) := K1.out.cell 2
  have a3 : w2.cell? ⟨w.heap.size, 3, none⟩ = some (.slice A' p.2.2.length c') := K1.out.cell 3
  clear P1 K1
  by_cases h1 : p.2.1.length ≤ 100
  · have d1 : ¬ (100 < (p.2.1.length : Int)) := by omega
    by_cases h2 : p.2.2.length ≤ 260
    · have d2 : ¬ (260 < (p.2.2.length : Int)) := by omega
      have F : Hid ((p.2.2.all fun o => decide (o.2.2.2.size ≤ 200)) = fewP p) := by unfold fewP; rw [decide_eq_true h1, decide_eq_true h2]; rfl
      go_wp2_with fail
      go_loop [3] (fun i => ∃ k : Nat, k ≤ p.2.2.length ∧ i = .int .i64 k ∧ Hid (((p.2.2.take k).all fun o => decide (o.2.2.2.size ≤ 200)) = true)) (fun i => p.2.2.length - (intOf i).toNat)
      case atStart => exact ⟨0, by omega, rfl, rfl⟩
      case round =>
        obtain ⟨k, hk, rfl, T⟩ := hrel
        have hk0 : (0 : Int) ≤ (k : Int) := by omega
        by_cases hlt : k < p.2.2.length
        · obtain ⟨b, o, x, rfl, hb, hx, R3, hok⟩ := O1.out.at_ hlt
          have t7 : w2.cell? ⟨b, o + k * 8 + 7, none⟩ = some (.string x.2.2.2) := R3 7 _ rfl
          have hlk : (k : Int) < (p.2.2.length : Int) := by omega
          by_cases ht : x.2.2.2.size ≤ 200
          · have dt : ¬ (200 < (x.2.2.2.size : Int)) := by omega
            have N := Lib.hid (allO_snoc hx T.out (decide_eq_true ht))
            clear T hx R3
            go_wp2_with fail
            go_round
            case rel => exact ⟨k + 1, by omega, by go_num, N.out⟩
            case measure => simp [intOf]; omega
          · have dt : 200 < (x.2.2.2.size : Int) := by omega
            have N := Lib.hid (allO_false (f := fun o => decide (o.2.2.2.size ≤ 200)) hx (decide_eq_false ht))
            clear T hx R3
            go_wp2
            go_ret
            exact ⟨ret_int (fewN_false (F.out.symm.trans N.out)).symm, B0.out⟩
        · have hlk : ¬ ((k : Int) < (p.2.2.length : Int)) := by omega
          rw [List.take_of_length_le (by omega)] at T
          go_wp2
          go_ret
          exact ⟨ret_int (fewN_true (F.out.symm.trans T.out)).symm, B0.out⟩
    · have d2 : 260 < (p.2.2.length : Int) := by omega
      have F : Hid (fewP p = false) := by unfold fewP; rw [decide_eq_false h2]; simp [Hid]
      go_wp2
      go_ret
      exact ⟨ret_int (fewN_false F.out).symm, B0.out⟩
  · have d1 : 100 < (p.2.1.length : Int) := by omega
    have F : Hid (fewP p = false) := by unfold fewP; rw [decide_eq_false h1]; rfl
    go_wp2
    go_ret
    exact ⟨ret_int (fewN_false F.out).symm, B0.out⟩
end Go.Proofs.Ytnhbbggpgieipaa

/- Does an operation name something that came later? Walked. -/
namespace Go.Proofs.Ytnhbbggpgieipaa
open Go.RowKit

def isLater (id : PidV) (v : VidV) : Bool := decide (((v.1.1.val : Nat) : Int) = ((id.1.val : Nat) : Int)) && decide (((id.2.val : Nat) : Int) < ((v.1.2.val : Nat) : Int))
end Go.Proofs.Ytnhbbggpgieipaa

/- Of which kind a vertex of a patch's own is: walked. -/
namespace Go.Proofs.Ytnhbbggpgieipaa
open Go.RowKit

/-- is a vertex of another patch, or made by an operation of a kind? -/
def ownV (p : PatV) (v : VidV) (k : Nat) : Bool := decide (v.1 ≠ p.1) || match p.2.2[v.2.val]? with | some o => decide (o.1.val = k) | none => false
end Go.Proofs.Ytnhbbggpgieipaa

/- Of which kind a vertex of a patch's own is: the program's, walked. -/
namespace Go.Proofs.Ytnhbbggpgieipaa
open Go.RowKit

end Go.Proofs.Ytnhbbggpgieipaa

/- Whether a patch may be: the program's way of asking and the document's say the same. Plain. -/
namespace Go.Proofs.Ytnhbbggpgieipaa
open Go.RowKit

instance : DecidableEq OpV := fun x y => decidable_of_iff (x.1 = y.1 ∧ x.2.1 = y.2.1 ∧ x.2.2.1 = y.2.2.1 ∧ x.2.2.2 = y.2.2.2) ⟨fun ⟨a, b, c, d⟩ => Prod.ext a (Prod.ext b (Prod.ext c d)), fun h => by rw [h]; exact ⟨rfl, rfl, rfl, rfl⟩⟩
instance (x : OpV) (l : List OpV) : Decidable (x ∈ l) := @List.instDecidableMemOfLawfulBEq OpV instBEqOfDecidableEq inferInstance x l
def atOf (p : PatV) (v : VidV) : Option VidV := (p.2.2[v.2.val]?).map (·.2.1)
def sameAt (p : PatV) (o : OpV) : Bool := decide (atOf p o.2.1 = atOf p o.2.2.1)
def tailV (p : PatV) (o : OpV) : Bool :=
  if o.1.val = 2 ∨ o.1.val = 3 then ownV p o.2.1 1
  else if o.1.val = 4 then ownV p o.2.1 3 && (ownV p o.2.2.1 3 && (decide (o.2.1.1 ≠ p.1) || (decide (o.2.2.1.1 ≠ p.1) || sameAt p o)))
  else true
def oneR (p : PatV) (i : Nat) (o : OpV) : Bool := goodO p.1 i o && (!((refsO o).any (isLater p.1)) && ((!decide (4 ≤ o.1.val) || !decide (o ∈ p.2.2.take i)) && tailV p o))

/-- all that stand ahead of place k may be -/
def onesB (p : PatV) (k : Nat) : Bool := (List.range k).all fun i => match p.2.2[i]? with | some o => oneR p i o | none => true
def patB (p : PatV) : Bool := pidOk ((p.1.1.val : Nat) : Int) ((p.1.2.val : Nat) : Int) && (decide (1 ≤ p.2.2.length) && (decide (p.2.2.length ≤ 200) && (decide (p.2.1 = depsV p.1 p.2.2) && onesB p p.2.2.length)))
end Go.Proofs.Ytnhbbggpgieipaa
