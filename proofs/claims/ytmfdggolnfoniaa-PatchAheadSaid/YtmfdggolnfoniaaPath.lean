/- Patches as they lie in memory; whether two are the same, walked. -/
import Derived.Test.YtmfdggolnfoniaaPatg
namespace Go.Proofs.Ytmfdggolnfoniaa
open Go.RowKit

abbrev PatV := PidV × List PidV × List OpV
/-- a patch's cells -/
def patC (id : PidV) (A : Option Addr) (n c : Nat) (A' : Option Addr) (n' c' : Nat) : List Value := [.int .u8 ((id.1.val : Nat) : Int), .int .u16 ((id.2.val : Nat) : Int), .slice A n c, .slice A' n' c']
theorem patC_pid {w : World} {g : Nat} {t : TypeId} {id : PidV} {A : Option Addr} {n c : Nat} {A' : Option Addr} {n' c' : Nat} (h : Blk w g t (patC id A n c A' n' c').toArray) : w.rangeAt g 0 (encP id) :=
  blk_sub h fun j v hj => by
    match j, hj with
    | 0, hj => exact hj
    | 1, hj => exact hj
    | j + 2, hj => simp [encP] at hj
/-- a patch as it lies -/
structure PatAt (w : World) (cs : List Value) (p : PatV) : Prop where
  ex : ∃ A c A' c', cs = patC p.1 A p.2.1.length c A' p.2.2.length c' ∧ PidsAt w A p.2.1.length p.2.1 ∧ OpsAt w A' p.2.2.length p.2.2
  len1 : p.2.1.length ≤ maxLen
  len2 : p.2.2.length ≤ maxLen
theorem PatAt.ext {w w' : World} {cs : List Value} {p : PatV} (h : PatAt w cs p) (hb : Below w.heap.size w w') : PatAt w' cs p := by
  obtain ⟨⟨A, c, A', c', e, h1, h2⟩, h3, h4⟩ := h
  exact ⟨⟨A, c, A', c', e, h1.ext hb, h2.ext hb⟩, h3, h4⟩
theorem patV_eq (p q : PatV) : p = q ↔ p.1 = q.1 ∧ p.2.1 = q.2.1 ∧ p.2.2 = q.2.2 :=
  ⟨fun h => by rw [h]; exact ⟨rfl, rfl, rfl⟩, fun ⟨h1, h2, h3⟩ => Prod.ext h1 (Prod.ext h2 h3)⟩
instance : DecidableEq PatV := fun p q => decidable_of_iff _ (patV_eq p q).symm
theorem PidsAt.drewN {w : World} {A : Option Addr} {n : Nat} {l : List PidV} (h : PidsAt w A n l) (u : Nat) : PidsAt (w.drewN u) A n l := ⟨h.len, h.sl⟩
theorem OpsAt.drewN {w : World} {A : Option Addr} {n : Nat} {l : List OpV} (h : OpsAt w A n l) (u : Nat) : OpsAt (w.drewN u) A n l := ⟨h.len, h.sl, h.ok⟩
theorem infoPat : (Try.prog.info? 37).map (·.size) = some 4 := by kernel_rfl
set_option maxRecDepth 100000 in
set_option maxHeartbeats 4000000 in
theorem psame (p q : PatV) (w : World) (cs ds : List Value) (hp : PatAt w cs p) (hq : PatAt w ds q) :
    Calls Try.prog 27 #[.agg cs.toArray, .agg ds.toArray] w (RetB w (.bool (decide (p = q)))) := by
  obtain ⟨⟨A, c, A', c', rfl, P1, O1⟩, m1, m2⟩ := hp
  obtain ⟨⟨B, d, B', d', rfl, P2, O2⟩, m3, m4⟩ := hq
  have K1 : Hid (Blk ((w.alloc (.cells (patC p.1 A p.2.1.length c A' p.2.2.length c').toArray 37)).alloc (.cells (patC q.1 B q.2.1.length d B' q.2.2.length d').toArray 37)) w.heap.size 37 (patC p.1 A p.2.1.length c A' p.2.2.length c').toArray) := (Blk.new _ _ _).alloc _
  have K2 : Hid (Blk ((w.alloc (.cells (patC p.1 A p.2.1.length c A' p.2.2.length c').toArray 37)).alloc (.cells (patC q.1 B q.2.1.length d B' q.2.2.length d').toArray 37)) (w.heap.size + 1) 37 (patC q.1 B q.2.1.length d B' q.2.2.length d').toArray) := Blk.newAt (by simp) _ _
  have B0 : Hid (Below w.heap.size w ((w.alloc (.cells (patC p.1 A p.2.1.length c A' p.2.2.length c').toArray 37)).alloc (.cells (patC q.1 B q.2.1.length d B' q.2.2.length d').toArray 37))) := ((Below.refl _ _).alloc (Nat.le_refl _) _).alloc (by simp) _
  go_enter Try.func27, Try.ntmps27
  go_upto_region 1 with fail
  generalize ((w.alloc (.cells (patC p.1 A p.2.1.length c A' p.2.2.length c').toArray 37)).alloc (.cells (patC q.1 B q.2.1.length d B' q.2.2.length d').toArray 37)) = w2 at *
  have R1 := Lib.hid (patC_pid K1.out)
  have R2 := Lib.hid (patC_pid K2.out)
  have P1 := Lib.hid (P1.ext B0.out)
  have P2 := Lib.hid (P2.ext B0.out)
  have O1 := Lib.hid (O1.ext B0.out)
  have O2 := Lib.hid (O2.ext B0.out)
  have a2 : w2.cell? ⟨w.heap.size, 2, none⟩ = some (.slice A p.2.1.length c) := K1.out.cell 2
  have a3 : w2.cell? ⟨w.heap.size, 3, none⟩ = some (.slice A' p.2.2.length c') := K1.out.cell 3
  have b2 : w2.cell? ⟨w.heap.size + 1, 2, none⟩ = some (.slice B q.2.1.length d) := K2.out.cell 2
  have b3 : w2.cell? ⟨w.heap.size + 1, 3, none⟩ = some (.slice B' q.2.2.length d') := K2.out.cell 3
  have EQ := fun u => eqlP p.1 q.1 u
  by_cases e1 : p.1 = q.1
  · have EQ' : ∀ u : World, (binOp .eql 33 (.agg (encP p.1).toArray) (.agg (encP q.1).toArray)).run Try.prog u = .ok (.bool true) u := fun u => by rw [EQ, decide_eq_true e1]
    clear EQ
    have C1 := fun u => equalP p.2.1 q.2.1 (w2.drewN u) A B p.2.1.length q.2.1.length c d (P1.out.drewN u) (P2.out.drewN u) m1
    have C2 := fun u => equalO p.2.2 q.2.2 (w2.drewN u) A' B' p.2.2.length q.2.2.length c' d' (O1.out.drewN u) (O2.out.drewN u) m2
    by_cases e2 : p.2.1 = q.2.1
    · simp only [decide_eq_true e2] at C1
      by_cases e3 : p.2.2 = q.2.2
      · have F : Hid (decide (p = q) = true) := decide_eq_true ((patV_eq p q).2 ⟨e1, e2, e3⟩)
        simp only [decide_eq_true e3] at C2
        clear e1 e2 e3
        go_wp2_with (first | (refine wpList_load_mid rfl 33 _ rfl _ _ (by rfl) _ _ R1.out underPid rfl infoPid ?_) | (refine wpList_load_mid rfl 33 _ rfl _ _ (by rfl) _ _ R2.out underPid rfl infoPid ?_) | (refine (C1 0).mono ?_; rintro e w' ⟨rfl, q1, rfl⟩) | (refine (C2 _).mono ?_; rintro e w' ⟨rfl, q2, rfl⟩))
        go_ret
        exact ⟨ret_bool F.out.symm, below_drewN B0.out _⟩
      · have F : Hid (decide (p = q) = false) := decide_eq_false fun h => e3 ((patV_eq p q).1 h).2.2
        simp only [decide_eq_false e3] at C2
        clear e1 e2 e3
        go_wp2_with (first | (refine wpList_load_mid rfl 33 _ rfl _ _ (by rfl) _ _ R1.out underPid rfl infoPid ?_) | (refine wpList_load_mid rfl 33 _ rfl _ _ (by rfl) _ _ R2.out underPid rfl infoPid ?_) | (refine (C1 0).mono ?_; rintro e w' ⟨rfl, q1, rfl⟩) | (refine (C2 _).mono ?_; rintro e w' ⟨rfl, q2, rfl⟩))
        go_ret
        exact ⟨ret_bool F.out.symm, below_drewN B0.out _⟩
    · have F : Hid (decide (p = q) = false) := decide_eq_false fun h => e2 ((patV_eq p q).1 h).2.1
      simp only [decide_eq_false e2] at C1
      clear e1 e2
      go_wp2_with (first | (refine wpList_load_mid rfl 33 _ rfl _ _ (by rfl) _ _ R1.out underPid rfl infoPid ?_) | (refine wpList_load_mid rfl 33 _ rfl _ _ (by rfl) _ _ R2.out underPid rfl infoPid ?_) | (refine (C1 0).mono ?_; rintro e w' ⟨rfl, q1, rfl⟩))
      go_ret
      exact ⟨ret_bool F.out.symm, below_drewN B0.out _⟩
  · have F : Hid (decide (p = q) = false) := decide_eq_false fun h => e1 ((patV_eq p q).1 h).1
    have EQ' : ∀ u : World, (binOp .eql 33 (.agg (encP p.1).toArray) (.agg (encP q.1).toArray)).run Try.prog u = .ok (.bool false) u := fun u => by rw [EQ, decide_eq_false e1]
    clear EQ e1
    go_wp2_with (first | (refine wpList_load_mid rfl 33 _ rfl _ _ (by rfl) _ _ R1.out underPid rfl infoPid ?_) | (refine wpList_load_mid rfl 33 _ rfl _ _ (by rfl) _ _ R2.out underPid rfl infoPid ?_))
    go_ret
    exact ⟨ret_bool F.out.symm, B0.out⟩
end Go.Proofs.Ytmfdggolnfoniaa
