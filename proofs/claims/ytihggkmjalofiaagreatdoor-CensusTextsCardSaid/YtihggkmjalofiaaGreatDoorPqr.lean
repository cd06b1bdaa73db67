/- Texts of general use, one behind another. -/
import Derived.Test.YtihggkmjalofiaaGreatDoorKinds
import Derived.Deep.DeepCutAuto
import Derived.Deep.RegionHeld3
import Derived.Test.YtihggkmjalofiaaGreatDoorOps

/- Whether the vertices that an operation names are of the kinds that it takes: walked. -/
namespace Go.Proofs.YtihggkmjalofiaaGreatDoor
open Go.RowKit

theorem allocVd (w : World) : (Instr.alloc 120 true (.tuple #[])).run Tryz.prog w = .ok (.pointer (some ⟨w.heap.size, 0, none⟩)) (w.alloc (.cells #[.int .u8 0, .int .u16 0, .int .u8 0] 120)) := by kernel_rfl
theorem allV_snoc {vs : List VidV} {f : VidV → Bool} {k : Nat} {x : VidV} (h : vs[k]? = some x) (hk : (vs.take k).all f = true) (hx : f x = true) : (vs.take (k + 1)).all f = true := by
 rw [take_snoc' h, List.all_append, hk]; simp [hx]
theorem allV_false {vs : List VidV} {f : VidV → Bool} {k : Nat} {x : VidV} (h : vs[k]? = some x) (hx : f x = false) : vs.all f = false := by
 rw [List.all_eq_false]; exact ⟨x, List.mem_of_getElem? h, by simp [hx]⟩
theorem underPat : Tryz.prog.underlying 31 = some (.struct (Tryz.prog.fieldsOf 31)) := by kernel_rfl
theorem u8_in (v : Fin 256) : 0 ≤ ((v.val : Nat) : Int) ∧ ((v.val : Nat) : Int) < 256 := ⟨by omega, by have := v.isLt; omega⟩
set_option maxRecDepth 100000 in
set_option maxHeartbeats 4000000 in
theorem suits_any (p : PatV) (o : OpV) (w : World) (cs : List Value) (hp : PatAt w cs p) (hr : ∀ v ∈ refsO o, v.1 = p.1 → v.2.val < p.2.2.length) :
  Calls Tryz.prog 185 #[.agg cs.toArray, .agg (encO o).toArray] w (RetB w (.bool (suitsV p o))) := by
 have HPAT := Lib.hid hp
 have HR := Lib.hid hr
 obtain ⟨⟨A, c, A', c', rfl, P1, O1⟩, m1, m2⟩ := hp
 have K1 : Hid (Blk ((w.alloc (.cells (patC p.1 A p.2.1.length c A' p.2.2.length c').toArray 31)).alloc (.cells (encO o).toArray 122)) w.heap.size 31 (patC p.1 A p.2.1.length c A' p.2.2.length c').toArray) := (Blk.new _ _ _).alloc _
 have K2 : Hid (Blk ((w.alloc (.cells (patC p.1 A p.2.1.length c A' p.2.2.length c').toArray 31)).alloc (.cells (encO o).toArray 122)) (w.heap.size + 1) 122 (encO o).toArray) := Blk.newAt (by simp) _ _
 have B0 : Hid (Below w.heap.size w ((w.alloc (.cells (patC p.1 A p.2.1.length c A' p.2.2.length c').toArray 31)).alloc (.cells (encO o).toArray 122))) := ((Below.refl _ _).alloc (Nat.le_refl _) _).alloc (by simp) _
 clear hr P1
 go_enter Tryz.func185, Tryz.ntmps185
 go_upto_region 1 with fail
 generalize ((w.alloc (.cells (patC p.1 A p.2.1.length c A' p.2.2.length c').toArray 31)).alloc (.cells (encO o).toArray 122)) = w2 at *
 have PA := Lib.hid (HPAT.out.ext B0.out)
 have O1 := Lib.hid (O1.ext B0.out)
 have b0 : w2.cell? ⟨w.heap.size + 1, 0, none⟩ = some (.int .u8 ((o.1.val : Nat) : Int)) := K2.out.cell 0
 have HK : Hid ((((o.1.val : Nat) : Int) == 4) = decide (o.1.val = 4)) := by
  by_cases h : o.1.val = 4
  ·rw [decide_eq_true h, h]; rfl
  ·rw [decide_eq_false h]; exact beq_eq_false_iff_ne.2 (by omega)
 have HW : Hid (wantN o = if o.1.val = 4 then 3 else 1) := rfl
 clear HPAT
 generalize hg1 : w.heap.size = g1 at K1 ⊢
 generalize hg2 : g1 + 1 = g2 at *
 rw [hg1, hg2] at K2 b0
 go_upto_if 12 with fail
 go_cut [5] (fun s5 wx => s5 = .int .u8 ((wantN o : Nat) : Int) ∧ wx = w2)
 case first =>
  by_cases c4 : o.1.val = 4
  ·have d4 := HK.out
   rw [decide_eq_true c4] at d4
   rw [if_pos c4] at HW
   clear HK c4
   go_wp2_with fail
   go_meet
   case rel => exact ⟨by rw [HW.out]; rfl, rfl⟩
  ·have d4 := HK.out
   rw [decide_eq_false c4] at d4
   rw [if_neg c4] at HW
   clear HK c4
   go_wp2_with fail
   go_meet
   case rel => exact ⟨by rw [HW.out]; rfl, rfl⟩
 case rest =>
  obtain ⟨rfl, rfl⟩ := hcut
  obtain ⟨wn, hwn⟩ : ∃ wn, wantN o = wn := ⟨_, rfl⟩
  rw [hwn]
  have HWN := Lib.hid hwn
  clear hwn
  go_wp2_with (refine wpList_load_row rfl 122 _ (by rfl) g2 (by rfl) _ _ _ _ K2.out underOp rfl infoOp ?_)
  refine (refsN o _).mono ?_
  rintro e w3 ⟨A3, c3, rfl, hc3, V, b3⟩
  have V := Lib.hid V
  have K1 := Lib.hid (K1.out.ext b3)
  have K2 := Lib.hid (K2.out.ext b3)
  have PA := Lib.hid (PA.out.ext b3)
  have O1 := Lib.hid (O1.out.ext b3)
  have B3 := Lib.hid (B0.out.trans (b3.mono B0.out.size))
  have hrl := refsO_le o
  have F : Hid (suitsV p o = ((refsO o).all (fitV p o) && (!bothOwn p o || sameAt p o))) := rfl
  clear b3 B0 b0 HW
  generalize hvs : refsO o = vs at *
  have hvs := Lib.hid hvs
  go_wp2_with fail
  go_loopw [16] (fun i wr => ∃ k : Nat, k ≤ vs.length ∧ i = .int .i64 k ∧ Hid ((vs.take k).all (fitV p o) = true) ∧ Hid (Below w3.heap.size w3 wr)) (fun i _ => vs.length - (intOf i).toNat)
  case atStart => exact ⟨0, by omega, rfl, rfl, Below.refl _ _⟩
  case round =>
   obtain ⟨k, hk, rfl, T, B⟩ := hrel
   have hk0 : (0 : Int) ≤ (k : Int) := by omega
   by_cases hlt : k < vs.length
   ·have hlk : (k : Int) < (vs.length : Int) := by omega
    obtain ⟨b, off, y, rfl, hb, hy, R0⟩ := V.out.at_ hlt
    have R0 := Lib.hid (rangeAt_below R0 B.out hb)
    have HS2 : Hid ((Tryz.prog.info? 120).map (·.size) = some (encV y).toArray.size) := infoVid
    have K4 : Hid (Blk ((wr.alloc (.cells #[.int .u8 0, .int .u16 0, .int .u8 0] 120)).setRow wr.heap.size (encV y).toArray) wr.heap.size 120 (encV y).toArray) := (Blk.new _ _ _).row _
    have B4 : Hid (Below wr.heap.size wr ((wr.alloc (.cells #[.int .u8 0, .int .u16 0, .int .u8 0] 120)).setRow wr.heap.size (encV y).toArray)) := below_setRow ((Below.refl _ _).alloc (Nat.le_refl _) _) (Nat.le_refl _) _
    have N1 := Lib.hid (allV_snoc (f := fitV p o) hy T.out)
    have N2 := Lib.hid (allV_false (f := fitV p o) hy)
    clear hy
    go_upto_region 7 with (first
     | (refine wpList_load_mid rfl 120 _ (by rfl) b (off + k * 3) (by rfl) _ _ R0.out underVid rfl infoVid ?_)
     | (refine wpList_alloced (allocVd _) ?_)
     | (refine wpList_store_row rfl 120 _ _ (by rfl) wr.heap.size (encV y).toArray (by rfl) (by rfl) _ _ (Blk.new _ _ _) HS2.out rfl (all_oneCell_toArray (encV_one y)) ?_))
    generalize ((wr.alloc (.cells #[.int .u8 0, .int .u16 0, .int .u8 0] 120)).setRow wr.heap.size (encV y).toArray) = w4 at *
    have K5 := Lib.hid ((K1.out.ext B.out).ext B4.out)
    have HC := Lib.hid (kind_any p y w4 _ ((PA.out.ext B.out).ext B4.out))
    have B6 := Lib.hid (B.out.trans (B4.out.mono B.out.size))
    have hz4 := Lib.hid B6.out.size
    clear B4
    have F1 : Hid (fitV p o y = !((kindV p y).2 && decide ((kindV p y).1 ≠ wn))) := by rw [Hid, ← HWN.out]; rfl
    generalize kindV p y = kv at *
    generalize wr.heap.size = gv at *
    clear R0 B
    obtain ⟨k1, b2⟩ := kv
    cases b2
    ·have N := Lib.hid (N1.out (by rw [F1.out]; rfl))
     clear N1 N2 F1
     go_wp2_with (first
      | (refine wpList_load_row rfl 31 _ (by rfl) g1 (by rfl) _ _ _ _ K5.out underPat rfl infoPat ?_)
      | (refine wpList_load_row rfl 120 _ (by rfl) gv (by rfl) _ _ _ _ K4.out underVid rfl infoVid ?_))
     refine HC.out.mono ?_
     rintro e w5 ⟨rfl, b5⟩
     have B5 := Lib.hid (B6.out.trans (b5.mono hz4.out))
     clear b5 HC B6 K4 K5
     go_wp2_with fail
     go_roundw
     case rel => exact ⟨k + 1, by omega, by go_num, N.out, B5.out⟩
     case measure => simp [intOf]; omega
    ·by_cases e : k1 = wn
     ·have N := Lib.hid (N1.out (by rw [F1.out, e]; simp))
      have d : ((k1 : Int) != (wn : Int)) = false := by rw [e]; simp
      clear N1 N2 F1 e
      go_wp2_with (first
       | (refine wpList_load_row rfl 31 _ (by rfl) g1 (by rfl) _ _ _ _ K5.out underPat rfl infoPat ?_)
       | (refine wpList_load_row rfl 120 _ (by rfl) gv (by rfl) _ _ _ _ K4.out underVid rfl infoVid ?_))
      refine HC.out.mono ?_
      rintro e w5 ⟨rfl, b5⟩
      have B5 := Lib.hid (B6.out.trans (b5.mono hz4.out))
      clear b5 HC B6 K4 K5
      go_wp2_with fail
      go_roundw
      case rel => exact ⟨k + 1, by omega, by go_num, N.out, B5.out⟩
      case measure => simp [intOf]; omega
     ·have N := Lib.hid (N2.out (by rw [F1.out]; simp [e]))
      have d : ((k1 : Int) != (wn : Int)) = true := by rw [bne_iff_ne]; omega
      clear N1 N2 F1 e
      go_wp2_with (first
       | (refine wpList_load_row rfl 31 _ (by rfl) g1 (by rfl) _ _ _ _ K5.out underPat rfl infoPat ?_)
       | (refine wpList_load_row rfl 120 _ (by rfl) gv (by rfl) _ _ _ _ K4.out underVid rfl infoVid ?_))
      refine HC.out.mono ?_
      rintro e w5 ⟨rfl, b5⟩
      have B5 := Lib.hid (B6.out.trans (b5.mono hz4.out))
      clear b5 HC B6 K4 K5
      go_wp2_with fail
      go_ret
      exact ⟨ret_bool (by rw [F.out, N.out]; rfl), B3.out.trans (B5.out.mono B3.out.size)⟩
   ·rw [List.take_of_length_le (by omega)] at T
    have F : Hid ((!bothOwn p o || sameAt p o) = suitsV p o) := by rw [Hid, F.out, T.out]; rfl
    have hlk : ¬ ((k : Int) < (vs.length : Int)) := by omega
    have K1 := Lib.hid (K1.out.ext B.out)
    have K2 := Lib.hid (K2.out.ext B.out)
    have O1 := Lib.hid (O1.out.ext B.out)
    have B3 := Lib.hid (B3.out.trans (B.out.mono B3.out.size))
    have a0 : wr.cell? ⟨g1, 0, none⟩ = some (.int .u8 ((p.1.1.val : Nat) : Int)) := K1.out.cell 0
    have a1 : wr.cell? ⟨g1, 1, none⟩ = some (.int .u16 ((p.1.2.val : Nat) : Int)) := K1.out.cell 1
    have a3 : wr.cell? ⟨g1, 3, none⟩ = some (.slice A' p.2.2.length c') := K1.out.cell 3
    have b0 : wr.cell? ⟨g2, 0, none⟩ = some (.int .u8 ((o.1.val : Nat) : Int)) := K2.out.cell 0
    have b1 : wr.cell? ⟨g2, 1, none⟩ = some (.int .u8 ((o.2.1.1.1.val : Nat) : Int)) := K2.out.cell 1
    have b2 : wr.cell? ⟨g2, 2, none⟩ = some (.int .u16 ((o.2.1.1.2.val : Nat) : Int)) := K2.out.cell 2
    have b3 : wr.cell? ⟨g2, 3, none⟩ = some (.int .u8 ((o.2.1.2.val : Nat) : Int)) := K2.out.cell 3
    have b4 : wr.cell? ⟨g2, 4, none⟩ = some (.int .u8 ((o.2.2.1.1.1.val : Nat) : Int)) := K2.out.cell 4
    have b5 : wr.cell? ⟨g2, 5, none⟩ = some (.int .u16 ((o.2.2.1.1.2.val : Nat) : Int)) := K2.out.cell 5
    have b6 : wr.cell? ⟨g2, 6, none⟩ = some (.int .u8 ((o.2.2.1.2.val : Nat) : Int)) := K2.out.cell 6
    clear K1 K2 B V PA T
    by_cases c4 : o.1.val = 4
    ·have d4 := HK.out
     rw [decide_eq_true c4] at d4
     have E1 := fun u => eqlP o.2.1.1 p.1 u
     have E2 := fun u => eqlP o.2.2.1.1 p.1 u
     by_cases e1 : o.2.1.1 = p.1
     ·have E1' : ∀ u : World, (binOp .eql 27 (.agg #[.int .u8 ((o.2.1.1.1.val : Nat) : Int), .int .u16 ((o.2.1.1.2.val : Nat) : Int)]) (.agg #[.int .u8 ((p.1.1.val : Nat) : Int), .int .u16 ((p.1.2.val : Nat) : Int)])).run Tryz.prog u = .ok (.bool true) u := fun u => (E1 u).trans (by rw [decide_eq_true e1])
      by_cases e2 : o.2.2.1.1 = p.1
      ·have E2' : ∀ u : World, (binOp .eql 27 (.agg #[.int .u8 ((o.2.2.1.1.1.val : Nat) : Int), .int .u16 ((o.2.2.1.1.2.val : Nat) : Int)]) (.agg #[.int .u8 ((p.1.1.val : Nat) : Int), .int .u16 ((p.1.2.val : Nat) : Int)])).run Tryz.prog u = .ok (.bool true) u := fun u => (E2 u).trans (by rw [decide_eq_true e2])
       have hv4 : refsO o = [o.2.1, o.2.2.1] := by unfold refsO; rw [if_neg (by omega), if_pos c4]
       have l1 := HR.out o.2.1 (by rw [← hvs.out, hv4]; simp) e1
       have l2 := HR.out o.2.2.1 (by rw [← hvs.out, hv4]; simp) e2
       obtain ⟨bb, oo, x1, rfl, hbb, hx1, R1, _⟩ := O1.out.at_ l1
       obtain ⟨b', o', x2, hA, hbb2, hx2, R2, _⟩ := O1.out.at_ l2
       injection hA with hA
       injection hA with hA1 hA2 _
       subst hA1 hA2
       have F : Hid (decide (x1.2.1 = x2.2.1) = suitsV p o) := by
        rw [Hid, ← F.out]
        unfold bothOwn sameAt atOf
        rw [decide_eq_true c4, decide_eq_true e1, decide_eq_true e2, hx1, hx2]
        simp
       have EV := fun u => eqlV x1.2.1 x2.2.1 u
       have s1 : wr.cell? ⟨bb, oo + o.2.1.2.val * 8 + 1, none⟩ = some (.int .u8 ((x1.2.1.1.1.val : Nat) : Int)) := R1 1 _ rfl
       have s2 : wr.cell? ⟨bb, oo + o.2.1.2.val * 8 + 2, none⟩ = some (.int .u16 ((x1.2.1.1.2.val : Nat) : Int)) := R1 2 _ rfl
       have s3 : wr.cell? ⟨bb, oo + o.2.1.2.val * 8 + 3, none⟩ = some (.int .u8 ((x1.2.1.2.val : Nat) : Int)) := R1 3 _ rfl
       have t1 : wr.cell? ⟨bb, oo + o.2.2.1.2.val * 8 + 1, none⟩ = some (.int .u8 ((x2.2.1.1.1.val : Nat) : Int)) := R2 1 _ rfl
       have t2 : wr.cell? ⟨bb, oo + o.2.2.1.2.val * 8 + 2, none⟩ = some (.int .u16 ((x2.2.1.1.2.val : Nat) : Int)) := R2 2 _ rfl
       have t3 : wr.cell? ⟨bb, oo + o.2.2.1.2.val * 8 + 3, none⟩ = some (.int .u8 ((x2.2.1.2.val : Nat) : Int)) := R2 3 _ rfl
       have EV' : ∀ u : World, (binOp .eql 120 (.agg #[.int .u8 ((x1.2.1.1.1.val : Nat) : Int), .int .u16 ((x1.2.1.1.2.val : Nat) : Int), .int .u8 ((x1.2.1.2.val : Nat) : Int)]) (.agg #[.int .u8 ((x2.2.1.1.1.val : Nat) : Int), .int .u16 ((x2.2.1.1.2.val : Nat) : Int), .int .u8 ((x2.2.1.2.val : Nat) : Int)])).run Tryz.prog u = .ok (.bool (decide (x1.2.1 = x2.2.1))) u := EV
       have i1 : ((o.2.1.2.val : Nat) : Int) < (p.2.2.length : Int) := by omega
       have i2 : ((o.2.2.1.2.val : Nat) : Int) < (p.2.2.length : Int) := by omega
       have i3 : 0 ≤ ((o.2.1.2.val : Nat) : Int) := by omega
       have i4 : 0 ≤ ((o.2.2.1.2.val : Nat) : Int) := by omega
       clear HK c4 E1 E2 e1 e2 hv4 hvs HR O1 hx1 hx2 EV R1 R2 l1 l2
       generalize decide (x1.2.1 = x2.2.1) = res at *
       go_wp2
       go_quiet (fail)
       go_wp2
       go_ret
       exact ⟨ret_bool F.out, below_drewN B3.out _⟩
      ·have E2' : ∀ u : World, (binOp .eql 27 (.agg #[.int .u8 ((o.2.2.1.1.1.val : Nat) : Int), .int .u16 ((o.2.2.1.1.2.val : Nat) : Int)]) (.agg #[.int .u8 ((p.1.1.val : Nat) : Int), .int .u16 ((p.1.2.val : Nat) : Int)])).run Tryz.prog u = .ok (.bool false) u := fun u => (E2 u).trans (by rw [decide_eq_false e2])
       have F : Hid (true = suitsV p o) := by rw [Hid, ← F.out]; unfold bothOwn; rw [decide_eq_false e2]; simp
       clear HK c4 E1 E2 e1 e2
       go_wp2
       go_ret
       exact ⟨ret_bool F.out, B3.out⟩
     ·have E1' : ∀ u : World, (binOp .eql 27 (.agg #[.int .u8 ((o.2.1.1.1.val : Nat) : Int), .int .u16 ((o.2.1.1.2.val : Nat) : Int)]) (.agg #[.int .u8 ((p.1.1.val : Nat) : Int), .int .u16 ((p.1.2.val : Nat) : Int)])).run Tryz.prog u = .ok (.bool false) u := fun u => (E1 u).trans (by rw [decide_eq_false e1])
      have F : Hid (true = suitsV p o) := by rw [Hid, ← F.out]; unfold bothOwn; rw [decide_eq_false e1]; simp
      clear HK c4 E1 E2 e1
      go_wp2
      go_ret
      exact ⟨ret_bool F.out, B3.out⟩
    ·have d4 := HK.out
     rw [decide_eq_false c4] at d4
     have F : Hid (true = suitsV p o) := by rw [Hid, ← F.out]; unfold bothOwn; rw [decide_eq_false c4]; simp
     clear HK c4
     go_wp2
     go_ret
     exact ⟨ret_bool F.out, B3.out⟩
end Go.Proofs.YtihggkmjalofiaaGreatDoor

/- Whether an operation may stand in a patch: the document's, walked. -/
namespace Go.Proofs.YtihggkmjalofiaaGreatDoor
open Go.RowKit

theorem allocOp (w : World) : (Instr.alloc 122 true (.tuple #[])).run Tryz.prog w = .ok (.pointer (some ⟨w.heap.size, 0, none⟩)) (w.alloc (.cells #[.int .u8 0, .int .u8 0, .int .u16 0, .int .u8 0, .int .u8 0, .int .u16 0, .int .u8 0, .string ByteArray.empty] 122)) := by kernel_rfl
theorem blk_off {w : World} {g : Nat} {t : TypeId} {cs : Array Value} (h : Blk w g t cs) {n : Nat} {l : List Value} (hl : ∀ j v, l[j]? = some v → cs[n + j]? = some v) : w.rangeAt g n l := fun j v hj => by
 rw [h.cell]
 exact hl j v hj
theorem op_at1 {w : World} {g : Nat} {t : TypeId} {o : OpV} (h : Blk w g t (encO o).toArray) : w.rangeAt g 1 (encV o.2.1) := blk_off h fun j v hj => by
 match j, hj with
 | 0, hj => exact hj
 | 1, hj => exact hj
 | 2, hj => exact hj
 | j + 3, hj => simp [encV] at hj
theorem op_at4 {w : World} {g : Nat} {t : TypeId} {o : OpV} (h : Blk w g t (encO o).toArray) : w.rangeAt g 4 (encV o.2.2.1) := blk_off h fun j v hj => by
 match j, hj with
 | 0, hj => exact hj
 | 1, hj => exact hj
 | 2, hj => exact hj
 | j + 3, hj => simp [encV] at hj
theorem kind_eq (o : OpV) (c : Nat) : ((((o.1.val : Nat) : Int) == (c : Int)) = decide (o.1.val = c)) := by
 by_cases h : o.1.val = c
 ·rw [decide_eq_true h, h]; exact beq_self_eq_true _
 ·rw [decide_eq_false h]; exact beq_eq_false_iff_ne.2 (by omega)

end Go.Proofs.YtihggkmjalofiaaGreatDoor

/- Whether a patch may be: the document's, walked. -/
namespace Go.Proofs.YtihggkmjalofiaaGreatDoor
open Go.RowKit

def headB (p : PatV) : Bool := pidOk ((p.1.1.val : Nat) : Int) ((p.1.2.val : Nat) : Int) && (decide (1 ≤ p.2.2.length) && (decide (p.2.2.length ≤ 200) && decide (p.2.1 = depsV p.1 p.2.2)))
theorem patB_head (p : PatV) : patB p = (headB p && onesB p p.2.2.length) := by
 unfold patB headB
 simp only [Bool.and_assoc]
theorem headB_len {p : PatV} (h : headB p = true) : p.2.2.length ≤ 200 := by
 unfold headB at h
 simp only [Bool.and_eq_true, decide_eq_true_eq] at h
 exact h.2.2.1
theorem u16_in (v : Fin 65536) : 0 ≤ ((v.val : Nat) : Int) ∧ ((v.val : Nat) : Int) < 65536 := ⟨by omega, by have := v.isLt; omega⟩
theorem ret_drewn {w w' : World} (h : ∃ n, w' = w.drewN n) : Below w.heap.size w w' := by obtain ⟨n, rfl⟩ := h; exact below_drewN (Below.refl _ _) _
end Go.Proofs.YtihggkmjalofiaaGreatDoor

/- Which patches come ahead: the program's, walked. -/
namespace Go.Proofs.YtihggkmjalofiaaGreatDoor
open Go.RowKit

abbrev zeroO : Array Value := #[.int .u8 0, .int .u8 0, .int .u16 0, .int .u8 0, .int .u8 0, .int .u16 0, .int .u8 0, .string ByteArray.empty]
theorem allocO (w : World) : (Instr.alloc 122 true (.tuple #[])).run Tryz.prog w = .ok (.pointer (some ⟨w.heap.size, 0, none⟩)) (w.alloc (.cells zeroO 122)) := by kernel_rfl
theorem allocV' (w : World) : (Instr.alloc 120 true (.tuple #[])).run Tryz.prog w = .ok (.pointer (some ⟨w.heap.size, 0, none⟩)) (w.alloc (.cells #[.int .u8 0, .int .u16 0, .int .u8 0] 120)) := by kernel_rfl
set_option maxRecDepth 100000 in
set_option maxHeartbeats 8000000 in
theorem depsP (id : PidV) (l : List OpV) (w : World) (A : Option Addr) (n c : Nat) (hm : n ≤ 300) (h : OpsAt w A n l) :
  Calls Tryz.prog 182 #[.agg (encP id).toArray, .slice A n c] w (OwnedRet w 27 2 (depsV id l).length ((depsV id l).flatMap encP)) := by
 have L := Lib.hid h
 clear h
 have i1 : 0 ≤ ((id.2.val : Nat) : Int) := by omega
 have i2 : ((id.2.val : Nat) : Int) < 65536 := by have := id.2.isLt; omega
 have i3 : 0 ≤ ((id.1.val : Nat) : Int) := by omega
 have i4 : ((id.1.val : Nat) : Int) < 256 := by have := id.1.isLt; omega
 have K : Hid (Blk (w.alloc (.cells (encP id).toArray 27)) w.heap.size 27 (encP id).toArray) := Blk.new _ _ _
 have B0 : Hid (Below w.heap.size w (w.alloc (.cells (encP id).toArray 27))) := below_new _ _
 have hz : (w.alloc (.cells (encP id).toArray 27)).heap.size = w.heap.size + 1 := by go_size
 have p0 : (w.alloc (.cells (encP id).toArray 27)).cell? ⟨w.heap.size, 0, none⟩ = some (.int .u8 ((id.1.val : Nat) : Int)) := K.out.cell 0
 have p1 : (w.alloc (.cells (encP id).toArray 27)).cell? ⟨w.heap.size, 1, none⟩ = some (.int .u16 ((id.2.val : Nat) : Int)) := K.out.cell 1
 have R1 : Hid ((w.alloc (.cells (encP id).toArray 27)).rangeAt w.heap.size 0 (encP id)) := blk_sub K.out fun j v hv => by simpa using hv
 have L1 := Lib.hid (L.out.ext B0.out)
 clear L K
 have hf := firstDep_cases id
 generalize ((id.2.val : Nat) : Int) = s at p1 i1 i2 hf
 generalize ((id.1.val : Nat) : Int) = u at p0 i3 i4 hf
 go_enter Tryz.func182, Tryz.ntmps182
 rcases hf with ⟨h1, hfd⟩ | ⟨h1, first, hfd, hfe⟩
 case' inl => (
  go_upto_region 4 with fail
  have O1 : Hid ((w.alloc (.cells (encP id).toArray 27)).ownsRow (w.heap.size + 1) 27 2 (.slice none 0 0) (rawDeps id (l.take 0)).length ((rawDeps id (l.take 0)).flatMap encP)) := by
   rw [Hid, raw_nil, hfd]; exact World.ownsRow_nil _ _ _ _
  have B1 := Lib.hid (Below.refl (w.heap.size + 1) (w.alloc (.cells (encP id).toArray 27))))
 case' inr => (
  go_upto_region 4 with (first | (refine wpList_lit1 pidSl (encP_len first) (by omega) (by rw [hfe.out]; rfl) ?_) | (at_builtin; refine wpList_push pidSl (base := w.heap.size + 1) (World.ownsRow_nil _ _ _ _) (encP first) rfl (encP_one first) (by rw [hz]; exact Nat.le_refl _) (by decide) (by decide) (by rfl) (by rfl) (by rfl) ?_; intro v1 w1 own1 bel1))
  have O1 : Hid (w1.ownsRow (w.heap.size + 1) 27 2 v1 (rawDeps id (l.take 0)).length ((rawDeps id (l.take 0)).flatMap encP)) := by
   rw [Hid, raw_nil, hfd]; simpa using own1
  have B1 := Lib.hid bel1
  clear own1 bel1 hfe)
 all_goals (
  clear hfd h1 p0 p1 i1 i2 i3 i4
  go_wp2_with fail
  go_loopw [5, 24] (fun v i wr => ∃ (k : Nat), k ≤ n ∧ i = .int .i64 k ∧ Hid (wr.ownsRow (w.heap.size + 1) 27 2 v (rawDeps id (l.take k)).length ((rawDeps id (l.take k)).flatMap encP)) ∧ Hid (Below (w.heap.size + 1) (w.alloc (.cells (encP id).toArray 27)) wr)) (fun _ i _ => n - (intOf i).toNat)
  case atStart => exact ⟨0, by omega, rfl, O1, B1⟩
  case round =>
   clear O1 B1
   obtain ⟨k, hk, rfl, O, B⟩ := hrel
   have hk0 : (0 : Int) ≤ (k : Int) := by omega
   have hws : w.heap.size + 1 ≤ wr.heap.size := by have := B.out.size; rw [hz] at this; exact this
   by_cases hlt : k < n
   ·obtain ⟨b, o, x, rfl, hb, hx, R0, hok⟩ := L1.out.at_ hlt
    rw [hz] at hb
    have R0 := Lib.hid (rangeAt_below R0 B.out hb)
    have hlk : (k : Int) < (n : Int) := by omega
    have S := Lib.hid (raw_snoc (id := id) hx)
    clear hx hok
    have K1 : Hid (((wr.alloc (.cells zeroO 122)).setRow wr.heap.size (encO x).toArray).rangeAt wr.heap.size 0 (encO x)) := blk_sub ((Blk.new _ _ _).row _) fun j v hv => by simpa using hv
    have b1 : Hid (Below wr.heap.size wr ((wr.alloc (.cells zeroO 122)).setRow wr.heap.size (encO x).toArray)) := below_setRow ((Below.refl _ _).alloc (Nat.le_refl _) _) (Nat.le_refl _) _
    go_upto_region 7 with (first
     | (refine wpList_load_mid rfl 122 _ (by rfl) _ _ (by rfl) _ _ R0.out underOp rfl infoOp ?_)
     | (refine wpList_alloced (allocO _) ?_)
     | (refine wpList_store_row rfl 122 _ _ (by rfl) wr.heap.size (encO x).toArray (by rfl) (by rfl) _ _ (Blk.new _ _ _) infoOp rfl (all_oneCell_toArray (encO_one x)) ?_))
    generalize hw1 : ((wr.alloc (.cells zeroO 122)).setRow wr.heap.size (encO x).toArray) = w1 at *
    clear hw1
    go_wp2_with (refine wpList_load_mid rfl 122 _ rfl _ _ (by rfl) _ _ K1.out underOp rfl infoOp ?_)
    refine (refsW x _).mono ?_
    rintro e w2 ⟨v2, rfl, V2, b2⟩
    have hws1 : w.heap.size + 1 ≤ w1.heap.size := Nat.le_trans hws b1.out.size
    have O2 := Lib.hid (own_ext (own_ext O.out b1.out) b2)
    have B2 := Lib.hid ((B.out.trans (b1.out.mono hws)).trans (b2.mono hws1))
    clear K1 b1 hws1
    have V2 := Lib.hid (own_base V2 (Nat.zero_le _))
    clear b2 O R0
    obtain ⟨A2, c2, rfl, hc2, _⟩ := Sl.of_own V2.out
    go_wp2_with fail
    have e0 : rawDeps id (l.take k) ++ partDeps id ((refsO x).take 0) = rawDeps id (l.take k) := by simp [partDeps]
    go_loopw [5, 31] (fun v i wr => ∃ (j : Nat), j ≤ (refsO x).length ∧ i = .int .i64 j ∧ Hid (wr.ownsRow (w.heap.size + 1) 27 2 v (rawDeps id (l.take k) ++ partDeps id ((refsO x).take j)).length ((rawDeps id (l.take k) ++ partDeps id ((refsO x).take j)).flatMap encP)) ∧ Hid (Below (w.heap.size + 1) (w.alloc (.cells (encP id).toArray 27)) wr) ∧ Hid (wr.ownsRow 0 120 3 (.slice A2 (refsO x).length c2) (refsO x).length ((refsO x).flatMap encV))) (fun _ i _ => (refsO x).length - (intOf i).toNat)
    case atStart => exact ⟨0, by omega, rfl, by rw [Hid, e0]; exact O2.out, B2, V2⟩
    case round =>
     clear O2 B2 V2 e0
     obtain ⟨j, hj, rfl, O3, B3, V3⟩ := hrel
     have hj0 : (0 : Int) ≤ (j : Int) := by omega
     have hr2 := refsO_le x
     by_cases hjl : j < (refsO x).length
     ·obtain ⟨A', c', he, hcc, P3⟩ := VidsAt.of_own V3.out rfl
      injection he with e1 e2 e3
      subst e1
      clear e2 e3 hcc
      obtain ⟨b', o', y, rfl, hb', hy, R3⟩ := P3.at_ hjl
      have R3 := Lib.hid R3
      have hbz : w.heap.size + 1 ≤ wr.heap.size := by have := B3.out.size; rw [hz] at this; exact this
      have hlj : (j : Int) < ((refsO x).length : Int) := by omega
      have NE := fun u => neqP y.1 id u
      have K1 : Hid (((wr.alloc (.cells #[.int .u8 0, .int .u16 0, .int .u8 0] 120)).setRow wr.heap.size (encV y).toArray).rangeAt wr.heap.size 0 (encP y.1)) := vid_pid_range (blk_sub ((Blk.new _ _ _).row _) fun j v hv => by simpa using hv)
      have b1 : Hid (Below wr.heap.size wr ((wr.alloc (.cells #[.int .u8 0, .int .u16 0, .int .u8 0] 120)).setRow wr.heap.size (encV y).toArray)) := below_setRow ((Below.refl _ _).alloc (Nat.le_refl _) _) (Nat.le_refl _) _
      clear P3
      go_upto_region 10 with (first
       | (refine wpList_load_mid rfl 120 _ (by rfl) _ _ (by rfl) _ _ R3.out underVid rfl infoVid ?_)
       | (refine wpList_alloced (allocV' _) ?_)
       | (refine wpList_store_row rfl 120 _ _ (by rfl) wr.heap.size (encV y).toArray (by rfl) (by rfl) _ _ (Blk.new _ _ _) infoVid rfl (all_oneCell_toArray (encV_one y)) ?_))
      generalize hw1 : ((wr.alloc (.cells #[.int .u8 0, .int .u16 0, .int .u8 0] 120)).setRow wr.heap.size (encV y).toArray) = w3 at *
      clear hw1
      have O3 := Lib.hid (own_ext O3.out b1.out)
      have V3 := Lib.hid (own_ext V3.out b1.out)
      have B3 := Lib.hid (B3.out.trans (b1.out.mono hbz))
      have R2 := Lib.hid (rangeAt_below R1.out B3.out (Nat.lt_succ_self w.heap.size))
      have hws3 : w.heap.size + 1 ≤ w3.heap.size := Nat.le_trans hbz b1.out.size
      clear b1 R3
      by_cases hv : y.1 = id
      ·have E := Lib.hid (part_snoc_out hy hv)
       have NE' : ∀ u : World, (binOp .neq 27 (.agg (encP y.1).toArray) (.agg (encP id).toArray)).run Tryz.prog u = .ok (.bool false) u := fun u => by rw [NE, decide_eq_true hv]; rfl
       clear NE hv hy
       rw [← E.out] at O3
       go_wp2_with (first | (refine wpList_load_mid rfl 27 _ rfl _ _ (by rfl) _ _ K1.out underPid rfl infoPid ?_) | (refine wpList_load_mid rfl 27 _ rfl _ _ (by rfl) _ _ R2.out underPid rfl infoPid ?_))
       go_roundw
       case rel => exact ⟨j + 1, by omega, by go_num, O3, B3, V3⟩
       case measure => simp [intOf]; omega
      ·have E := Lib.hid (part_snoc_in hy hv)
       have NE' : ∀ u : World, (binOp .neq 27 (.agg (encP y.1).toArray) (.agg (encP id).toArray)).run Tryz.prog u = .ok (.bool true) u := fun u => by rw [NE, decide_eq_false hv]; rfl
       clear NE hv hy
       have hlen : (rawDeps id (l.take k) ++ partDeps id ((refsO x).take j)).length ≤ 1000 := by
        have h1 := rawDeps_le id (l.take k)
        have h2 := part_le id (refsO x) j
        have h3 := refsO_le x
        rw [List.length_take] at h1
        rw [List.length_append]; omega
       have E2 : rawDeps id (l.take k) ++ partDeps id ((refsO x).take (j + 1)) = (rawDeps id (l.take k) ++ partDeps id ((refsO x).take j)) ++ [y.1] := by rw [E.out, List.append_assoc]
       have E2 := Lib.hid E2
       clear E
       generalize rawDeps id (l.take k) ++ partDeps id ((refsO x).take j) = acc at O3 E2 hlen
       go_wp2_with (first | (refine wpList_load_mid rfl 27 _ rfl _ _ (by rfl) _ _ K1.out underPid rfl infoPid ?_) | (refine wpList_load_mid rfl 27 _ rfl _ _ (by rfl) _ _ R2.out underPid rfl infoPid ?_) | (refine wpList_lit1 pidSl (encP_len y.1) (by omega) (by rfl) ?_) | (at_builtin; refine wpList_pushOnly pidSl O3.out (encP y.1) rfl (encP_one y.1) hws3 (by omega) (by unfold maxLen; omega) _ rfl (by rfl) (by rfl) (by rfl) ?_; intro v5 w5 own5 gr5 bel5))
       have V5 := Lib.hid ((V3.out.alloc _).kept gr5 (own_ne (V3.out.alloc _) (O3.out.alloc (.cells (encP y.1).toArray 27)) (by decide)))
       have B5 := Lib.hid (B3.out.trans bel5)
       have O5 : Hid (w5.ownsRow (w.heap.size + 1) 27 2 v5 (rawDeps id (l.take k) ++ partDeps id ((refsO x).take (j + 1))).length ((rawDeps id (l.take k) ++ partDeps id ((refsO x).take (j + 1))).flatMap encP)) := by
        rw [Hid, E2.out]; simp only [flat_snocP, List.length_append, List.length_cons, List.length_nil, Nat.zero_add]; exact own5
       clear own5 bel5 gr5 O3 B3 V3
       go_roundw
       case rel => exact ⟨j + 1, by omega, by go_num, O5, B5, V5⟩
       case measure => simp [intOf]; omega
     ·have E := Lib.hid (part_all (id := id) (show j = (refsO x).length by omega))
      rw [E.out, ← S.out] at O3
      have hlj : ¬ ((j : Int) < ((refsO x).length : Int)) := by omega
      clear E S
      go_wp2_with fail
      go_roundw
      case rel => exact ⟨k + 1, by omega, by go_num, O3, B3⟩
      case measure => simp [intOf]; omega
   ·rw [List.take_of_length_le (by rw [L1.out.len]; omega)] at O
    have hlen : (rawDeps id l).length ≤ 100000 := by
     have h1 := rawDeps_le id l
     rw [L1.out.len] at h1; omega
    obtain ⟨A3, c3, rfl, hc3, P3⟩ := PidsAt.of_own O.out rfl
    have hlk : ¬ ((k : Int) < (n : Int)) := by omega
    clear O hc3
    go_wp2_with fail
    refine (setP _ _ A3 _ c3 hlen P3).mono ?_
    rintro e w2 ⟨v4, rfl, S4, b4⟩
    go_wp2
    go_ret
    exact ⟨v4, rfl, own_base S4 (by omega), (B0.out.trans (B.out.mono (Nat.le_succ _))).trans (b4.mono (by omega))⟩)
end Go.Proofs.YtihggkmjalofiaaGreatDoor
