/- Texts of general use, one behind another. -/
import Derived.Test.YtdafiipedlglpaaGreatDoorKinds
import Derived.Deep.DeepCutAuto
import Derived.Deep.RegionHeld3
import Derived.Test.YtdafiipedlglpaaGreatDoorOps

/- Whether the vertices that an operation names are of the kinds that it takes: walked. -/
namespace Go.Proofs.YtdafiipedlglpaaGreatDoor
open Go.RowKit

theorem allocVd (w : World) : (Instr.alloc 98 true (.tuple #[])).run Tryz.prog w = .ok (.pointer (some ⟨w.heap.size, 0, none⟩)) (w.alloc (.cells #[.int .u8 0, .int .u16 0, .int .u8 0] 98)) := by kernel_rfl
theorem allV_snoc {vs : List VidV} {f : VidV → Bool} {k : Nat} {x : VidV} (h : vs[k]? = some x) (hk : (vs.take k).all f = true) (hx : f x = true) : (vs.take (k + 1)).all f = true := by
  rw [take_snoc' h, List.all_append, hk]; simp [hx]
theorem allV_false {vs : List VidV} {f : VidV → Bool} {k : Nat} {x : VidV} (h : vs[k]? = some x) (hx : f x = false) : vs.all f = false := by
  rw [List.all_eq_false]; exact ⟨x, List.mem_of_getElem? h, by simp [hx]⟩
theorem op_at {w : World} {g : Nat} {t : TypeId} {o : OpV} (h : Blk w g t (encO o).toArray) : w.rangeAt g 0 (encO o) := blk_sub h fun j v hv => by simpa using hv
theorem underPat : Tryz.prog.underlying 64 = some (.struct (Tryz.prog.fieldsOf 64)) := by kernel_rfl
theorem u8_in (v : Fin 256) : 0 ≤ ((v.val : Nat) : Int) ∧ ((v.val : Nat) : Int) < 256 := ⟨by omega, by have := v.isLt; omega⟩
set_option maxRecDepth 100000 in
set_option maxHeartbeats 4000000 in
theorem suits_any (p : PatV) (o : OpV) (w : World) (cs : List Value) (hp : PatAt w cs p) (hr : ∀ v ∈ refsO o, v.1 = p.1 → v.2.val < p.2.2.length) :
    Calls Tryz.prog 147 #[.agg cs.toArray, .agg (encO o).toArray] w (RetB w (.bool (suitsV p o))) := by
  have HPAT := Lib.hid hp
  have HR := Lib.hid hr
  obtain ⟨⟨A, c, A', c', rfl, P1, O1⟩, m1, m2⟩ := hp
  have K1 : Hid (Blk ((w.alloc (.cells (patC p.1 A p.2.1.length c A' p.2.2.length c').toArray 64)).alloc (.cells (encO o).toArray 152)) w.heap.size 64 (patC p.1 A p.2.1.length c A' p.2.2.length c').toArray) := (Blk.new _ _ _).alloc _
  have K2 : Hid (Blk ((w.alloc (.cells (patC p.1 A p.2.1.length c A' p.2.2.length c').toArray 64)).alloc (.cells (encO o).toArray 152)) (w.heap.size + 1) 152 (encO o).toArray) := Blk.newAt (by simp) _ _
  have B0 : Hid (Below w.heap.size w ((w.alloc (.cells (patC p.1 A p.2.1.length c A' p.2.2.length c').toArray 64)).alloc (.cells (encO o).toArray 152))) := ((Below.refl _ _).alloc (Nat.le_refl _) _).alloc (by simp) _
  clear hr P1
  go_enter Tryz.func147, Tryz.ntmps147
  go_upto_region 1 with fail
  generalize ((w.alloc (.cells (patC p.1 A p.2.1.length c A' p.2.2.length c').toArray 64)).alloc (.cells (encO o).toArray 152)) = w2 at *
  have PA := Lib.hid (HPAT.out.ext B0.out)
  have O1 := Lib.hid (O1.ext B0.out)
  have b0 : w2.cell? ⟨w.heap.size + 1, 0, none⟩ = some (.int .u8 ((o.1.val : Nat) : Int)) := K2.out.cell 0
  have HK : Hid ((((o.1.val : Nat) : Int) == 4) = decide (o.1.val = 4)) := by
    by_cases h : o.1.val = 4
    · rw [decide_eq_true h, h]; rfl
    · rw [decide_eq_false h]; exact beq_eq_false_iff_ne.2 (by omega)
  have HW : Hid (wantN o = if o.1.val = 4 then 3 else 1) := rfl
  clear HPAT
  generalize hg1 : w.heap.size = g1 at K1 ⊢
  generalize hg2 : g1 + 1 = g2 at *
  rw [hg1, hg2] at K2 b0
  go_upto_if 12 with fail
  go_cut [5] (fun s5 wx => s5 = .int .u8 ((wantN o : Nat) : Int) ∧ wx = w2)
  case first =>
    by_cases c4 : o.1.val = 4
    · have d4 := HK.out
      rw [decide_eq_true c4] at d4
      rw [if_pos c4] at HW
      clear HK c4
      go_wp2_with fail
      go_meet
      case rel => exact ⟨by rw [HW.out]; rfl, rfl⟩
    · have d4 := HK.out
      rw [decide_eq_false c4] at d4
      rw [if_neg c4] at HW
      clear HK c4
      go_wp2_with fail
      go_meet
      case rel => exact ⟨by rw [HW.out]; rfl, rfl⟩
  case rest =>
    obtain ⟨rfl, rfl⟩ := hcut
    obtain ⟨wn, hwn⟩ : ∃ wn, wantN o = wn := ⟨_, rfl⟩
    rw [hwn]
    have HWN := Lib.hid hwn
    clear hwn
    go_wp2_with (refine wpList_load_row rfl 152 _ (by rfl) g2 (by rfl) _ _ _ _ K2.out underOp rfl infoOp ?_)
    refine (refsN o _).mono ?_
    rintro e w3 ⟨A3, c3, rfl, hc3, V, b3⟩
    have V := Lib.hid V
    have K1 := Lib.hid (K1.out.ext b3)
    have K2 := Lib.hid (K2.out.ext b3)
    have PA := Lib.hid (PA.out.ext b3)
    have O1 := Lib.hid (O1.out.ext b3)
    have B3 := Lib.hid (B0.out.trans (b3.mono B0.out.size))
    have hrl := refsO_le o
    have F : Hid (suitsV p o = ((refsO o).all (fitV p o) && (!bothOwn p o || sameAt p o))) := rfl
    clear b3 B0 b0 HW
    generalize hvs : refsO o = vs at *
    have hvs := Lib.hid hvs
    go_wp2_with fail
    go_loopw [16] (fun i wr => ∃ k : Nat, k ≤ vs.length ∧ i = .int .i64 k ∧ Hid ((vs.take k).all (fitV p o) = true) ∧ Hid (Below w3.heap.size w3 wr)) (fun i _ => vs.length - (intOf i).toNat)
    case atStart => exact ⟨0, by omega, rfl, rfl, Below.refl _ _⟩
    case round =>
      obtain ⟨k, hk, rfl, T, B⟩ := hrel
      have hk0 : (0 : Int) ≤ (k : Int) := by omega
      by_cases hlt : k < vs.length
      · have hlk : (k : Int) < (vs.length : Int) := by omega
        obtain ⟨b, off, y, rfl, hb, hy, R0⟩ := V.out.at_ hlt
        have R0 := Lib.hid (rangeAt_below R0 B.out hb)
        have HS2 : Hid ((Tryz.prog.info? 98).map (·.size) = some (encV y).toArray.size) := infoVid
        have K4 : Hid (Blk ((wr.alloc (.cells #[.int .u8 0, .int .u16 0, .int .u8 0] 98)).setRow wr.heap.size (encV y).toArray) wr.heap.size 98 (encV y).toArray) := (Blk.new _ _ _).row _
        have B4 : Hid (Below wr.heap.size wr ((wr.alloc (.cells #[.int .u8 0, .int .u16 0, .int .u8 0] 98)).setRow wr.heap.size (encV y).toArray)) := below_setRow ((Below.refl _ _).alloc (Nat.le_refl _) _) (Nat.le_refl _) _
        have N1 := Lib.hid (allV_snoc (f := fitV p o) hy T.out)
        have N2 := Lib.hid (allV_false (f := fitV p o) hy)
        clear hy
        go_upto_region 7 with (first
          | (refine wpList_load_mid rfl 98 _ (by rfl) b (off + k * 3) (by rfl) _ _ R0.out underVid rfl infoVid ?_)
          | (refine wpList_alloced (allocVd _) ?_)
          | (refine wpList_store_row rfl 98 _ _ (by rfl) wr.heap.size (encV y).toArray (by rfl) (by rfl) _ _ (Blk.new _ _ _) HS2.out rfl (all_oneCell_toArray (encV_one y)) ?_))
        generalize ((wr.alloc (.cells #[.int .u8 0, .int .u16 0, .int .u8 0] 98)).setRow wr.heap.size (encV y).toArray) = w4 at *
        have K5 := Lib.hid ((K1.out.ext B.out).ext B4.out)
        have HC := Lib.hid (kind_any p y w4 _ ((PA.out.ext B.out).ext B4.out))
        have B6 := Lib.hid (B.out.trans (B4.out.mono B.out.size))
        have hz4 := Lib.hid B6.out.size
        clear B4
        have F1 : Hid (fitV p o y = !((kindV p y).2 && decide ((kindV p y).1 ≠ wn))) := by rw [Hid, ← HWN.out]; rfl
        generalize kindV p y = kv at *
        generalize wr.heap.size = gv at *
        clear R0 B
        obtain ⟨k1, b2⟩ := kv
        cases b2
        · have N := Lib.hid (N1.out (by rw [F1.out]; rfl))
          clear N1 N2 F1
          go_wp2_with (first
            | (refine wpList_load_row rfl 64 _ (by rfl) g1 (by rfl) _ _ _ _ K5.out underPat rfl infoPat ?_)
            | (refine wpList_load_row rfl 98 _ (by rfl) gv (by rfl) _ _ _ _ K4.out underVid rfl infoVid ?_))
          refine HC.out.mono ?_
          rintro e w5 ⟨rfl, b5⟩
          have B5 := Lib.hid (B6.out.trans (b5.mono hz4.out))
          clear b5 HC B6 K4 K5
          go_wp2_with fail
          go_roundw
          case rel => exact ⟨k + 1, by omega, by go_num, N.out, B5.out⟩
          case measure => simp [intOf]; omega
        · by_cases e : k1 = wn
          · have N := Lib.hid (N1.out (by rw [F1.out, e]; simp))
            have d : ((k1 : Int) != (wn : Int)) = false := by rw [e]; simp
            clear N1 N2 F1 e
            go_wp2_with (first
              | (refine wpList_load_row rfl 64 _ (by rfl) g1 (by rfl) _ _ _ _ K5.out underPat rfl infoPat ?_)
              | (refine wpList_load_row rfl 98 _ (by rfl) gv (by rfl) _ _ _ _ K4.out underVid rfl infoVid ?_))
            refine HC.out.mono ?_
            rintro e w5 ⟨rfl, b5⟩
            have B5 := Lib.hid (B6.out.trans (b5.mono hz4.out))
            clear b5 HC B6 K4 K5
            go_wp2_with fail
            go_roundw
            case rel => exact ⟨k + 1, by omega, by go_num, N.out, B5.out⟩
            case measure => simp [intOf]; omega
          · have N := Lib.hid (N2.out (by rw [F1.out]; simp [e]))
            have d : ((k1 : Int) != (wn : Int)) = true := by rw [bne_iff_ne]; omega
            clear N1 N2 F1 e
            go_wp2_with (first
              | (refine wpList_load_row rfl 64 _ (by rfl) g1 (by rfl) _ _ _ _ K5.out underPat rfl infoPat ?_)
              | (refine wpList_load_row rfl 98 _ (by rfl) gv (by rfl) _ _ _ _ K4.out underVid rfl infoVid ?_))
            refine HC.out.mono ?_
            rintro e w5 ⟨rfl, b5⟩
            have B5 := Lib.hid (B6.out.trans (b5.mono hz4.out))
            clear b5 HC B6 K4 K5
            go_wp2_with fail
            go_ret
            exact ⟨ret_bool (by rw [F.out, N.out]; rfl), B3.out.trans (B5.out.mono B3.out.size)⟩
      · rw [List.take_of_length_le (by omega)] at T
        have F : Hid ((!bothOwn p o || sameAt p o) = suitsV p o) := by rw [Hid, F.out, T.out]; rfl
        have hlk : ¬ ((k : Int) < (vs.length : Int)) := by omega
        have K1 := Lib.hid (K1.out.ext B.out)
        have K2 := Lib.hid (K2.out.ext B.out)
        have O1 := Lib.hid (O1.out.ext B.out)
        have B3 := Lib.hid (B3.out.trans (B.out.mono B3.out.size))
        have a0 : wr.cell? ⟨g1, 0, none⟩ = some (.int .u8 ((p.1.1.val : Nat) : Int)) := K1.out.cell 0
        have a1 : wr.cell? ⟨g1, 1, none⟩ = some (.int .u16 ((p.1.2.val : Nat) : Int)) := K1.out.cell 1
        have a3 : wr.cell? ⟨g1, 3, none⟩ = some (.slice A' p.2.2.length c') := K1.out.cell 3
        have b0 : wr.cell? ⟨g2, 0, none⟩ = some (.int .u8 ((o.1.val : Nat) : Int)) := K2.out.cell 0
        have b1 : wr.cell? ⟨g2, 1, none⟩ = some (.int .u8 ((o.2.1.1.1.val : Nat) : Int)) := K2.out.cell 1
        have b2 : wr.cell? ⟨g2, 2, none⟩ = some (.int .u16 ((o.2.1.1.2.val : Nat) : Int)) := K2.out.cell 2
        have b3 : wr.cell? ⟨g2, 3, none⟩ = some (.int .u8 ((o.2.1.2.val : Nat) : Int)) := K2.out.cell 3
        have b4 : wr.cell? ⟨g2, 4, none⟩ = some (.int .u8 ((o.2.2.1.1.1.val : Nat) : Int)) := K2.out.cell 4
        have b5 : wr.cell? ⟨g2, 5, none⟩ = some (.int .u16 ((o.2.2.1.1.2.val : Nat) : Int)) := K2.out.cell 5
        have b6 : wr.cell? ⟨g2, 6, none⟩ = some (.int .u8 ((o.2.2.1.2.val : Nat) : Int)) := K2.out.cell 6
        clear K1 K2 B V PA T
        by_cases c4 : o.1.val = 4
        · have d4 := HK.out
          rw [decide_eq_true c4] at d4
          have E1 := fun u => eqlP o.2.1.1 p.1 u
          have E2 := fun u => eqlP o.2.2.1.1 p.1 u
          by_cases e1 : o.2.1.1 = p.1
          · have E1' : ∀ u : World, (binOp .eql 60 (.agg #[.int .u8 ((o.2.1.1.1.val : Nat) : Int), .int .u16 ((o.2.1.1.2.val : Nat) : Int)]) (.agg #[.int .u8 ((p.1.1.val : Nat) : Int), .int .u16 ((p.1.2.val : Nat) : Int)])).run Tryz.prog u = .ok (.bool true) u := fun u => (E1 u).trans (by rw [decide_eq_true e1])
            by_cases e2 : o.2.2.1.1 = p.1
            · have E2' : ∀ u : World, (binOp .eql 60 (.agg #[.int .u8 ((o.2.2.1.1.1.val : Nat) : Int), .int .u16 ((o.2.2.1.1.2.val : Nat) : Int)]) (.agg #[.int .u8 ((p.1.1.val : Nat) : Int), .int .u16 ((p.1.2.val : Nat) : Int)])).run Tryz.prog u = .ok (.bool true) u := fun u => (E2 u).trans (by rw [decide_eq_true e2])
              have hv4 : refsO o = [o.2.1, o.2.2.1] := by unfold refsO; rw [if_neg (by omega), if_pos c4]
              have l1 := HR.out o.2.1 (by rw [← hvs.out, hv4]; simp) e1
              have l2 := HR.out o.2.2.1 (by rw [← hvs.out, hv4]; simp) e2
              obtain ⟨bb, oo, x1, rfl, hbb, hx1, R1, _⟩ := O1.out.at_ l1
              obtain ⟨b', o', x2, hA, hbb2, hx2, R2, _⟩ := O1.out.at_ l2
              injection hA with hA
              injection hA with hA1 hA2 _
              subst hA1 hA2
              have F : Hid (decide (x1.2.1 = x2.2.1) = suitsV p o) := by
                rw [Hid, ← F.out]
                unfold bothOwn sameAt atOf
                rw [decide_eq_true c4, decide_eq_true e1, decide_eq_true e2, hx1, hx2]
                simp
              have EV := fun u => eqlV x1.2.1 x2.2.1 u
              have s1 : wr.cell? ⟨bb, oo + o.2.1.2.val * 8 + 1, none⟩ = some (.int .u8 ((x1.2.1.1.1.val : Nat) : Int)) := R1 1 _ rfl
              have s2 : wr.cell? ⟨bb, oo + o.2.1.2.val * 8 + 2, none⟩ = some (.int .u16 ((x1.2.1.1.2.val : Nat) : Int)) := R1 2 _ rfl
              have s3 : wr.cell? ⟨bb, oo + o.2.1.2.val * 8 + 3, none⟩ = some (.int .u8 ((x1.2.1.2.val : Nat) : Int)) := R1 3 _ rfl
              have t1 : wr.cell? ⟨bb, oo + o.2.2.1.2.val * 8 + 1, none⟩ = some (.int .u8 ((x2.2.1.1.1.val : Nat) : Int)) := R2 1 _ rfl
              have t2 : wr.cell? ⟨bb, oo + o.2.2.1.2.val * 8 + 2, none⟩ = some (.int .u16 ((x2.2.1.1.2.val : Nat) : Int)) := R2 2 _ rfl
              have t3 : wr.cell? ⟨bb, oo + o.2.2.1.2.val * 8 + 3, none⟩ = some (.int .u8 ((x2.2.1.2.val : Nat) : Int)) := R2 3 _ rfl
              have EV' : ∀ u : World, (binOp .eql 98 (.agg #[.int .u8 ((x1.2.1.1.1.val : Nat) : Int), .int .u16 ((x1.2.1.1.2.val : Nat) : Int), .int .u8 ((x1.2.1.2.val : Nat) : Int)]) (.agg #[.int .u8 ((x2.2.1.1.1.val : Nat) : Int), .int .u16 ((x2.2.1.1.2.val : Nat) : Int), .int .u8 ((x2.2.1.2.val : Nat) : Int)])).run Tryz.prog u = .ok (.bool (decide (x1.2.1 = x2.2.1))) u := EV
              have i1 : ((o.2.1.2.val : Nat) : Int) < (p.2.2.length : Int) := by omega
              have i2 : ((o.2.2.1.2.val : Nat) : Int) < (p.2.2.length : Int) := by omega
              have i3 : 0 ≤ ((o.2.1.2.val : Nat) : Int) := by omega
              have i4 : 0 ≤ ((o.2.2.1.2.val : Nat) : Int) := by omega
              clear HK c4 E1 E2 e1 e2 hv4 hvs HR O1 hx1 hx2 EV R1 R2 l1 l2
              generalize decide (x1.2.1 = x2.2.1) = res at *
              go_wp2
              go_quiet (fail)
              go_wp2
              go_ret
              exact ⟨ret_bool F.out, below_drewN B3.out _⟩
            · have E2' : ∀ u : World, (binOp .eql 60 (.agg #[.int .u8 ((o.2.2.1.1.1.val : Nat) : Int), .int .u16 ((o.2.2.1.1.2.val : Nat) : Int)]) (.agg #[.int .u8 ((p.1.1.val : Nat) : Int), .int .u16 ((p.1.2.val : Nat) : Int)])).run Tryz.prog u = .ok (.bool false) u := fun u => (E2 u).trans (by rw [decide_eq_false e2])
              have F : Hid (true = suitsV p o) := by rw [Hid, ← F.out]; unfold bothOwn; rw [decide_eq_false e2]; simp
              clear HK c4 E1 E2 e1 e2
              go_wp2
              go_ret
              exact ⟨ret_bool F.out, B3.out⟩
          · have E1' : ∀ u : World, (binOp .eql 60 (.agg #[.int .u8 ((o.2.1.1.1.val : Nat) : Int), .int .u16 ((o.2.1.1.2.val : Nat) : Int)]) (.agg #[.int .u8 ((p.1.1.val : Nat) : Int), .int .u16 ((p.1.2.val : Nat) : Int)])).run Tryz.prog u = .ok (.bool false) u := fun u => (E1 u).trans (by rw [decide_eq_false e1])
            have F : Hid (true = suitsV p o) := by rw [Hid, ← F.out]; unfold bothOwn; rw [decide_eq_false e1]; simp
            clear HK c4 E1 E2 e1
            go_wp2
            go_ret
            exact ⟨ret_bool F.out, B3.out⟩
        · have d4 := HK.out
          rw [decide_eq_false c4] at d4
          have F : Hid (true = suitsV p o) := by rw [Hid, ← F.out]; unfold bothOwn; rw [decide_eq_false c4]; simp
          clear HK c4
          go_wp2
          go_ret
          exact ⟨ret_bool F.out, B3.out⟩
end Go.Proofs.YtdafiipedlglpaaGreatDoor

/- Whether an operation may stand in a patch: the document's, walked. -/
namespace Go.Proofs.YtdafiipedlglpaaGreatDoor
open Go.RowKit

theorem eqlO_any (a1 a2 a3 a4 a5 a6 a7 b1 b2 b3 b4 b5 b6 b7 : Int) (s t : ByteArray) (w : World) : (binOp .eql 152 (.agg #[.int .u8 a1, .int .u8 a2, .int .u16 a3, .int .u8 a4, .int .u8 a5, .int .u16 a6, .int .u8 a7, .string s]) (.agg #[.int .u8 b1, .int .u8 b2, .int .u16 b3, .int .u8 b4, .int .u8 b5, .int .u16 b6, .int .u8 b7, .string t])).run Tryz.prog w = .ok (.bool (decide (a1 = b1 ∧ a2 = b2 ∧ a3 = b3 ∧ a4 = b4 ∧ a5 = b5 ∧ a6 = b6 ∧ a7 = b7 ∧ s.toList = t.toList))) w := by
  simp [go_sem]
  by_cases h1 : a1 = b1
  · by_cases h2 : a2 = b2
    · by_cases h3 : a3 = b3
      · by_cases h4 : a4 = b4
        · by_cases h5 : a5 = b5
          · by_cases h6 : a6 = b6
            · by_cases h7 : a7 = b7
              · by_cases h8 : s.toList = t.toList <;> simp [h1, h2, h3, h4, h5, h6, h7, h8]
              · simp [h7]
            · simp [h6]
          · simp [h5]
        · simp [h4]
      · simp [h3]
    · simp [h2]
  · simp [h1]
theorem eqlO (x y : OpV) (w : World) : (binOp .eql 152 (.agg (encO x).toArray) (.agg (encO y).toArray)).run Tryz.prog w = .ok (.bool (decide (x = y))) w := by
  rw [show decide (x = y) = _ from (decide_eq_decide.2 (opV_iff x y)).symm]
  exact eqlO_any _ _ _ _ _ _ _ _ _ _ _ _ _ _ _ _ w
theorem allocOp (w : World) : (Instr.alloc 152 true (.tuple #[])).run Tryz.prog w = .ok (.pointer (some ⟨w.heap.size, 0, none⟩)) (w.alloc (.cells #[.int .u8 0, .int .u8 0, .int .u16 0, .int .u8 0, .int .u8 0, .int .u16 0, .int .u8 0, .string ByteArray.empty] 152)) := by kernel_rfl
theorem blk_off {w : World} {g : Nat} {t : TypeId} {cs : Array Value} (h : Blk w g t cs) {n : Nat} {l : List Value} (hl : ∀ j v, l[j]? = some v → cs[n + j]? = some v) : w.rangeAt g n l := fun j v hj => by
  rw [h.cell]
  exact hl j v hj
theorem op_at1 {w : World} {g : Nat} {t : TypeId} {o : OpV} (h : Blk w g t (encO o).toArray) : w.rangeAt g 1 (encV o.2.1) := blk_off h fun j v hj => by
  match j, hj with
  | 0, hj => exact hj
  | 1, hj => exact hj
  | 2, hj => exact hj
  | j + 3, hj => simp [encV] at hj
theorem op_at4 {w : World} {g : Nat} {t : TypeId} {o : OpV} (h : Blk w g t (encO o).toArray) : w.rangeAt g 4 (encV o.2.2.1) := blk_off h fun j v hj => by
  match j, hj with
  | 0, hj => exact hj
  | 1, hj => exact hj
  | 2, hj => exact hj
  | j + 3, hj => simp [encV] at hj
theorem notLater_snoc {vs : List VidV} {id : PidV} {k : Nat} {x : VidV} (h : vs[k]? = some x) (hk : (vs.take k).any (isLater id) = false) (hx : isLater id x = false) : (vs.take (k + 1)).any (isLater id) = false := anyV_false h hk hx
theorem mem_snoc {l : List OpV} {k : Nat} {x o : OpV} (h : l[k]? = some x) : (o ∈ l.take (k + 1)) ↔ (o ∈ l.take k ∨ x = o) := by
  rw [take_snoc' h, List.mem_append, List.mem_singleton]
  exact or_congr Iff.rfl ⟨fun e => e.symm, fun e => e.symm⟩
theorem mem_of_at {l : List OpV} {i k : Nat} {x : OpV} (h : l[k]? = some x) (hk : k < i) : x ∈ l.take i := by
  have : (l.take i)[k]? = some x := by rw [List.getElem?_take_of_lt hk]; exact h
  exact List.mem_of_getElem? this
theorem kind_eq (o : OpV) (c : Nat) : ((((o.1.val : Nat) : Int) == (c : Int)) = decide (o.1.val = c)) := by
  by_cases h : o.1.val = c
  · rw [decide_eq_true h, h]; exact beq_self_eq_true _
  · rw [decide_eq_false h]; exact beq_eq_false_iff_ne.2 (by omega)

set_option maxRecDepth 100000 in
set_option maxHeartbeats 8000000 in
theorem one18_any (p : PatV) (i : Nat) (o : OpV) (w : World) (cs : List Value) (hp : PatAt w cs p) (hi : p.2.2[i]? = some o) :
    Calls Tryz.prog 105 #[.agg cs.toArray, .int .i64 i] w (RetB w (.bool (oneR p i o))) := by
  have HPAT := Lib.hid hp
  have hlt : i < p.2.2.length := (List.getElem?_eq_some_iff.1 hi).1
  obtain ⟨⟨A, c, A', c', rfl, P1, O1⟩, m1, m2⟩ := hp
  have hm2 := m2
  unfold maxLen at hm2
  have i0 : (0 : Int) ≤ (i : Int) := by omega
  have i1 : (i : Int) < (p.2.2.length : Int) := by omega
  have K1 : Hid (Blk (w.alloc (.cells (patC p.1 A p.2.1.length c A' p.2.2.length c').toArray 64)) w.heap.size 64 (patC p.1 A p.2.1.length c A' p.2.2.length c').toArray) := Blk.new _ _ _
  have B0 : Hid (Below w.heap.size w (w.alloc (.cells (patC p.1 A p.2.1.length c A' p.2.2.length c').toArray 64))) := below_new _ _
  clear P1
  go_enter Tryz.func105, Tryz.ntmps105
  go_upto_region 1 with fail
  generalize hw2 : (w.alloc (.cells (patC p.1 A p.2.1.length c A' p.2.2.length c').toArray 64)) = w2 at *
  clear hw2
  have PA := Lib.hid (HPAT.out.ext B0.out)
  have O1 := Lib.hid (O1.ext B0.out)
  generalize hg1 : w.heap.size = g1 at K1 ⊢
  clear HPAT hg1
  obtain ⟨b, off, x, rfl, hb, hx, R3, hok⟩ := O1.out.at_ hlt
  obtain rfl : o = x := Option.some.inj (hi.symm.trans hx)
  have R3 := Lib.hid R3
  have a3 : w2.cell? ⟨g1, 3, none⟩ = some (.slice (some ⟨b, off, none⟩) p.2.2.length c') := K1.out.cell 3
  have HI := Lib.hid hi
  have HS2 : Hid ((Tryz.prog.info? 152).map (·.size) = some (encO o).toArray.size) := infoOp
  have K2 : Hid (Blk ((w2.alloc (.cells #[.int .u8 0, .int .u8 0, .int .u16 0, .int .u8 0, .int .u8 0, .int .u16 0, .int .u8 0, .string ByteArray.empty] 152)).setRow w2.heap.size (encO o).toArray) w2.heap.size 152 (encO o).toArray) := (Blk.new _ _ _).row _
  have B2 : Hid (Below w2.heap.size w2 ((w2.alloc (.cells #[.int .u8 0, .int .u8 0, .int .u16 0, .int .u8 0, .int .u8 0, .int .u16 0, .int .u8 0, .string ByteArray.empty] 152)).setRow w2.heap.size (encO o).toArray)) := below_setRow ((Below.refl _ _).alloc (Nat.le_refl _) _) (Nat.le_refl _) _
  clear hx hi
  go_upto_region 2 with (first
    | (refine wpList_load_mid rfl 152 _ (by rfl) b (off + i * 8) (by rfl) _ _ R3.out underOp rfl infoOp ?_)
    | (refine wpList_alloced (allocOp _) ?_)
    | (refine wpList_store_row rfl 152 _ _ (by rfl) w2.heap.size (encO o).toArray (by rfl) (by rfl) _ _ (Blk.new _ _ _) HS2.out rfl (all_oneCell_toArray (encO_one o)) ?_))
  generalize hw3 : ((w2.alloc (.cells #[.int .u8 0, .int .u8 0, .int .u16 0, .int .u8 0, .int .u8 0, .int .u16 0, .int .u8 0, .string ByteArray.empty] 152)).setRow w2.heap.size (encO o).toArray) = w3 at *
  clear hw3 a3 R3
  have K1 := Lib.hid (K1.out.ext B2.out)
  have PA := Lib.hid (PA.out.ext B2.out)
  have O1 := Lib.hid (O1.out.ext B2.out)
  have B3 := Lib.hid (B0.out.trans (B2.out.mono B0.out.size))
  clear B0 B2 HS2
  generalize hg2 : w2.heap.size = g2 at *
  clear hg2
  have RP := Lib.hid (patC_pid K1.out)
  have HG := Lib.hid (rgoodN p.1 (i : Int) o hok w3)
  have F : Hid (oneR p i o = (goodO p.1 i o && (!((refsO o).any (isLater p.1)) && ((!decide (4 ≤ o.1.val) || !decide (o ∈ p.2.2.take i)) && tailV p o)))) := rfl
  have TV : Hid (tailV p o = if o.1.val = 2 ∨ o.1.val = 3 then ownV p o.2.1 1 else if o.1.val = 4 then ownV p o.2.1 3 && (ownV p o.2.2.1 3 && (decide (o.2.1.1 ≠ p.1) || (decide (o.2.2.1.1 ≠ p.1) || sameAt p o))) else true) := rfl
  have HGR := Lib.hid (fun h : goodO p.1 (i : Int) o = true => goodO_refs h)
  go_wp2_with (first
    | (refine wpList_load_mid rfl 60 _ (by rfl) g1 0 (by rfl) _ _ RP.out underPid rfl infoPid ?_)
    | (refine wpList_load_row rfl 152 _ (by rfl) g2 (by rfl) _ _ _ _ K2.out underOp rfl infoOp ?_))
  refine HG.out.mono ?_
  rintro e w4 ⟨rfl, b4⟩
  have K1 := Lib.hid (K1.out.ext b4)
  have K2 := Lib.hid (K2.out.ext b4)
  have PA := Lib.hid (PA.out.ext b4)
  have O1 := Lib.hid (O1.out.ext b4)
  have B4 := Lib.hid (B3.out.trans (b4.mono B3.out.size))
  clear b4 HG B3 RP
  cases hg : goodO p.1 (i : Int) o
  · rw [hg] at F
    clear HGR hg TV
    go_wp2
    go_ret
    exact ⟨ret_bool (by rw [F.out]; rfl), B4.out⟩
  have HGR := Lib.hid (HGR.out hg)
  rw [hg] at F
  clear hg
  go_wp2_with (refine wpList_load_row rfl 152 _ (by rfl) g2 (by rfl) _ _ _ _ K2.out underOp rfl infoOp ?_)
  refine (rrefsN o _).mono ?_
  rintro e w5 ⟨A5, c5, rfl, hc5, V, b5⟩
  have V := Lib.hid V
  have K1 := Lib.hid (K1.out.ext b5)
  have K2 := Lib.hid (K2.out.ext b5)
  have PA := Lib.hid (PA.out.ext b5)
  have O1 := Lib.hid (O1.out.ext b5)
  have B5 := Lib.hid (B4.out.trans (b5.mono B4.out.size))
  clear b5 B4
  have hrl := refsO_le o
  have HV : Hid (∀ v, v ∈ refsO o → v ∈ refsO o) := fun v h => h
  obtain ⟨vs, hvs⟩ : ∃ vs, refsO o = vs := ⟨_, rfl⟩
  rw [hvs] at V F hrl ⊢
  have hvs := Lib.hid hvs
  have a0 : w5.cell? ⟨g1, 0, none⟩ = some (.int .u8 ((p.1.1.val : Nat) : Int)) := K1.out.cell 0
  have a1 : w5.cell? ⟨g1, 1, none⟩ = some (.int .u16 ((p.1.2.val : Nat) : Int)) := K1.out.cell 1
  have a3 : w5.cell? ⟨g1, 3, none⟩ = some (.slice (some ⟨b, off, none⟩) p.2.2.length c') := K1.out.cell 3
  have e0 : w5.cell? ⟨g2, 0, none⟩ = some (.int .u8 ((o.1.val : Nat) : Int)) := K2.out.cell 0
  have e1 : w5.cell? ⟨g2, 1, none⟩ = some (.int .u8 ((o.2.1.1.1.val : Nat) : Int)) := K2.out.cell 1
  have e2 : w5.cell? ⟨g2, 2, none⟩ = some (.int .u16 ((o.2.1.1.2.val : Nat) : Int)) := K2.out.cell 2
  have e3 : w5.cell? ⟨g2, 3, none⟩ = some (.int .u8 ((o.2.1.2.val : Nat) : Int)) := K2.out.cell 3
  have e4 : w5.cell? ⟨g2, 4, none⟩ = some (.int .u8 ((o.2.2.1.1.1.val : Nat) : Int)) := K2.out.cell 4
  have e5 : w5.cell? ⟨g2, 5, none⟩ = some (.int .u16 ((o.2.2.1.1.2.val : Nat) : Int)) := K2.out.cell 5
  have e6 : w5.cell? ⟨g2, 6, none⟩ = some (.int .u8 ((o.2.2.1.2.val : Nat) : Int)) := K2.out.cell 6
  go_wp2_with fail
  go_loopw [7] (fun i wr => ∃ k : Nat, k ≤ vs.length ∧ i = .int .i64 k ∧ Hid ((vs.take k).any (isLater p.1) = false) ∧ ∃ u, wr = w5.drewN u) (fun i _ => vs.length - (intOf i).toNat)
  case atStart => exact ⟨0, by omega, rfl, rfl, 0, rfl⟩
  case round =>
    obtain ⟨k, hk, rfl, T, u, rfl⟩ := hrel
    have hk0 : (0 : Int) ≤ (k : Int) := by omega
    by_cases hlk : k < vs.length
    · have hlk2 : (k : Int) < (vs.length : Int) := by omega
      obtain ⟨b', off', y, rfl, hb', hy, R0⟩ := V.out.at_ hlk
      have t0 : w5.cell? ⟨b', off' + k * 3, none⟩ = some (.int .u8 ((y.1.1.val : Nat) : Int)) := R0 0 _ rfl
      have t1 : w5.cell? ⟨b', off' + k * 3 + 1, none⟩ = some (.int .u16 ((y.1.2.val : Nat) : Int)) := R0 1 _ rfl
      have IL : Hid (isLater p.1 y = (decide (((y.1.1.val : Nat) : Int) = ((p.1.1.val : Nat) : Int)) && decide (((p.1.2.val : Nat) : Int) < ((y.1.2.val : Nat) : Int)))) := rfl
      have N1 := Lib.hid (notLater_snoc (id := p.1) hy T.out)
      have N2 := Lib.hid (anyV_true (f := isLater p.1) hy)
      clear R0 hy
      generalize ((p.1.1.val : Nat) : Int) = pa at a0 IL
      generalize ((p.1.2.val : Nat) : Int) = ps at a1 IL
      generalize ((y.1.1.val : Nat) : Int) = va at t0 IL
      generalize ((y.1.2.val : Nat) : Int) = vz at t1 IL
      clear e0 e1 e2 e3 e4 e5 e6 a3
      by_cases h1 : va = pa
      · have d1 : (va == pa) = true := beq_iff_eq.2 h1
        by_cases h2 : ps < vz
        · have N := Lib.hid (N2.out (by rw [IL.out, decide_eq_true h1, decide_eq_true h2]; rfl))
          have d2 : decide (ps < vz) = true := decide_eq_true h2
          clear h1 h2 N1 N2 IL
          go_wp2_with fail
          go_quiet (fail)
          go_wp2
          go_ret
          exact ⟨ret_bool (by rw [F.out, N.out]; rfl), below_drewN (below_drewN B5.out _) _⟩
        · have N := Lib.hid (N1.out (by rw [IL.out, decide_eq_true h1, decide_eq_false h2]; rfl))
          have d2 : decide (ps < vz) = false := decide_eq_false h2
          clear h1 h2 N1 N2 IL
          go_wp2_with fail
          go_quiet (fail)
          go_wp2_with fail
          go_roundw
          case rel => exact ⟨k + 1, by omega, by go_num, N.out, _, rfl⟩
          case measure => simp [intOf]; omega
      · have d1 : (va == pa) = false := beq_eq_false_iff_ne.2 h1
        have N := Lib.hid (N1.out (by rw [IL.out, decide_eq_false h1]; rfl))
        clear h1 N1 N2 IL
        go_wp2_with fail
        go_quiet (fail)
        go_wp2_with fail
        go_roundw
        case rel => exact ⟨k + 1, by omega, by go_num, N.out, _, rfl⟩
        case measure => simp [intOf]; omega
    · rw [List.take_of_length_le (by omega)] at T
      have F : Hid (oneR p i o = ((!decide (4 ≤ o.1.val) || !decide (o ∈ p.2.2.take i)) && tailV p o)) := by rw [Hid, F.out, T.out]; rfl
      have hlk2 : ¬ ((k : Int) < (vs.length : Int)) := by omega
      have K1 := Lib.hid (K1.out.drewN u)
      have K2 := Lib.hid (K2.out.drewN u)
      have O1 := Lib.hid (O1.out.drewN u)
      have PA := Lib.hid (PA.out.ext (below_drewN (Below.refl _ _) u))
      have B5 := Lib.hid (below_drewN B5.out u)
      replace a0 : (w5.drewN u).cell? _ = _ := a0
      replace a1 : (w5.drewN u).cell? _ = _ := a1
      replace a3 : (w5.drewN u).cell? _ = _ := a3
      replace e0 : (w5.drewN u).cell? _ = _ := e0
      replace e1 : (w5.drewN u).cell? _ = _ := e1
      replace e2 : (w5.drewN u).cell? _ = _ := e2
      replace e3 : (w5.drewN u).cell? _ = _ := e3
      replace e4 : (w5.drewN u).cell? _ = _ := e4
      replace e5 : (w5.drewN u).cell? _ = _ := e5
      replace e6 : (w5.drewN u).cell? _ = _ := e6
      clear T V
      generalize w5.drewN u = w6 at *
      go_wp2_with fail
      by_cases k4 : 4 ≤ o.1.val
      · have d5 : decide ((4 : Int) ≤ ((o.1.val : Nat) : Int)) = true := decide_eq_true (by omega)
        go_loopw [8] (fun j wr => ∃ k : Nat, k ≤ i ∧ j = .int .i64 k ∧ Hid (o ∉ p.2.2.take k) ∧ ∃ u, wr = w6.drewN u) (fun j _ => i - (intOf j).toNat)
        case atStart => exact ⟨0, by omega, rfl, by simp [Hid], 0, rfl⟩
        case round =>
          obtain ⟨k, hk, rfl, T, u, rfl⟩ := hrel
          have hk0 : (0 : Int) ≤ (k : Int) := by omega
          by_cases hlk : k < i
          · have hlk2 : (k : Int) < (i : Int) := by omega
            have hlk3 : (k : Int) < (p.2.2.length : Int) := by omega
            obtain ⟨bb, oo, x, hA, hbb, hx, R4, _⟩ := O1.out.at_ (Nat.lt_trans hlk hlt)
            injection hA with hA
            injection hA with hA1 hA2 _
            subst hA1 hA2
            have R4 := Lib.hid R4
            have R5 := Lib.hid (op_at K2.out)
            have EQ := fun u => eqlO x o u
            by_cases e : x = o
            · have N : Hid (decide (o ∈ p.2.2.take i) = true) := decide_eq_true (by rw [← e]; exact mem_of_at hx hlk)
              have EQ' : ∀ u : World, (binOp .eql 152 (.agg (encO x).toArray) (.agg (encO o).toArray)).run Tryz.prog u = .ok (.bool true) u := fun u => by rw [EQ, decide_eq_true e]
              have F : Hid (false = oneR p i o) := by rw [Hid, F.out, N.out, decide_eq_true k4]; rfl
              clear EQ hx T e N
              go_wp2_with fail
              refine wp_region_quiet_lit (by kernel_rfl) (by kernel_rfl) ?_
              repeat (first | (refine wpQuiet_load_mid (rangeAt_drewN2 R4.out) underOp rfl infoOp rfl rfl ?_; simp only [List.set_cons_succ, List.set_cons_zero]) | (refine wpQuiet_load_mid (rangeAt_drewN2 R5.out) underOp rfl infoOp rfl rfl ?_; simp only [List.set_cons_succ, List.set_cons_zero]) | go_big_quiet_step (fail))
              refine wpQuiet_nil ?_
              rintro _ ⟨nq, rfl⟩
              go_wp2
              go_ret
              exact ⟨ret_bool F.out, below_drewN (below_drewN B5.out _) _⟩
            · have N : Hid (o ∉ p.2.2.take (k + 1)) := fun h => ((mem_snoc hx).1 h).elim T.out e
              have EQ' : ∀ u : World, (binOp .eql 152 (.agg (encO x).toArray) (.agg (encO o).toArray)).run Tryz.prog u = .ok (.bool false) u := fun u => by rw [EQ, decide_eq_false e]
              clear EQ hx T e
              go_wp2_with fail
              refine wp_region_quiet_lit (by kernel_rfl) (by kernel_rfl) ?_
              repeat (first | (refine wpQuiet_load_mid (rangeAt_drewN2 R4.out) underOp rfl infoOp rfl rfl ?_; simp only [List.set_cons_succ, List.set_cons_zero]) | (refine wpQuiet_load_mid (rangeAt_drewN2 R5.out) underOp rfl infoOp rfl rfl ?_; simp only [List.set_cons_succ, List.set_cons_zero]) | go_big_quiet_step (fail))
              refine wpQuiet_nil ?_
              rintro _ ⟨nq, rfl⟩
              go_wp2_with fail
              go_roundw
              case rel => exact ⟨k + 1, by omega, by go_num, N.out, _, rfl⟩
              case measure => simp [intOf]; omega
          · have hlk2 : ¬ ((k : Int) < (i : Int)) := by omega
            have hki : k = i := by omega
            subst hki
            have F : Hid (oneR p k o = tailV p o) := by rw [Hid, F.out, decide_eq_false T.out]; simp
            clear HV V hvs
            have K1 := Lib.hid (K1.out.drewN u)
            have K2 := Lib.hid (K2.out.drewN u)
            have O1 := Lib.hid (O1.out.drewN u)
            have PA := Lib.hid (PA.out.ext (below_drewN (Below.refl _ _) u))
            have B5 := Lib.hid (below_drewN B5.out u)
            replace a0 : (w6.drewN u).cell? _ = _ := a0
            replace a1 : (w6.drewN u).cell? _ = _ := a1
            replace a3 : (w6.drewN u).cell? _ = _ := a3
            replace e0 : (w6.drewN u).cell? _ = _ := e0
            replace e1 : (w6.drewN u).cell? _ = _ := e1
            replace e2 : (w6.drewN u).cell? _ = _ := e2
            replace e3 : (w6.drewN u).cell? _ = _ := e3
            replace e4 : (w6.drewN u).cell? _ = _ := e4
            replace e5 : (w6.drewN u).cell? _ = _ := e5
            replace e6 : (w6.drewN u).cell? _ = _ := e6
            generalize w6.drewN u = w7 at *
            by_cases c4 : o.1.val = 4
            · have d4' : True := trivial
              have d4 : (((o.1.val : Nat) : Int) == 4) = true := by have := kind_eq o 4; rw [decide_eq_true c4] at this; exact this
              have d2 : (((o.1.val : Nat) : Int) == 2) = false := by have := kind_eq o 2; rw [decide_eq_false (by omega)] at this; exact this
              have d3 : (((o.1.val : Nat) : Int) == 3) = false := by have := kind_eq o 3; rw [decide_eq_false (by omega)] at this; exact this
              rw [if_neg (by omega), if_pos c4] at TV
              have hv4 : refsO o = [o.2.1, o.2.2.1] := by unfold refsO; rw [if_neg (by omega), if_pos c4]
              have l1 := Lib.hid (HGR.out o.2.1 (by rw [hv4]; simp))
              have l2 := Lib.hid (HGR.out o.2.2.1 (by rw [hv4]; simp))
              have RA := Lib.hid (op_at1 K2.out)
              have HC1 := Lib.hid (own18_any p o.2.1 3 w7 _ PA.out)
              have HC2 := Lib.hid (fun W (hW : Below w7.heap.size w7 W) => own18_any p o.2.2.1 3 W _ (PA.out.ext hW))
              generalize ownV p o.2.1 3 = r1 at *
              generalize ownV p o.2.2.1 3 = r2 at *
              clear hv4 HGR
              clear e1 e2 e3 e4 e5 e6 a0 a1 a3
              cases r1
              · have F : Hid (false = oneR p k o) := by rw [Hid, F.out, TV.out]; rfl
                clear d4' c4
                go_wp2_with (first
                  | (refine wpList_load_row rfl 64 _ (by rfl) g1 (by rfl) _ _ _ _ K1.out underPat rfl infoPat ?_)
                  | (refine wpList_load_mid rfl 98 _ (by rfl) g2 1 (by rfl) _ _ RA.out underVid rfl infoVid ?_))
                refine HC1.out.mono ?_
                rintro e w8 ⟨rfl, b8⟩
                have B8 := Lib.hid (B5.out.trans (b8.mono B5.out.size))
                clear b8 HC1 HC2 l1 l2
                go_wp2
                go_ret
                exact ⟨ret_bool F.out, B8.out⟩
              go_wp2_with (first
                | (refine wpList_load_row rfl 64 _ (by rfl) g1 (by rfl) _ _ _ _ K1.out underPat rfl infoPat ?_)
                | (refine wpList_load_mid rfl 98 _ (by rfl) g2 1 (by rfl) _ _ RA.out underVid rfl infoVid ?_))
              refine HC1.out.mono ?_
              rintro e w8 ⟨rfl, b8⟩
              have B8 := Lib.hid (B5.out.trans (b8.mono B5.out.size))
              have K1 := Lib.hid (K1.out.ext b8)
              have K2 := Lib.hid (K2.out.ext b8)
              have O1 := Lib.hid (O1.out.ext b8)
              have a0 : w8.cell? ⟨g1, 0, none⟩ = some (.int .u8 ((p.1.1.val : Nat) : Int)) := K1.out.cell 0
              have a1 : w8.cell? ⟨g1, 1, none⟩ = some (.int .u16 ((p.1.2.val : Nat) : Int)) := K1.out.cell 1
              have a2 : w8.cell? ⟨g1, 2, none⟩ = some (.slice A p.2.1.length c) := K1.out.cell 2
              have a3 : w8.cell? ⟨g1, 3, none⟩ = some (.slice (some ⟨b, off, none⟩) p.2.2.length c') := K1.out.cell 3
              have e4 : w8.cell? ⟨g2, 4, none⟩ = some (.int .u8 ((o.2.2.1.1.1.val : Nat) : Int)) := K2.out.cell 4
              have e5 : w8.cell? ⟨g2, 5, none⟩ = some (.int .u16 ((o.2.2.1.1.2.val : Nat) : Int)) := K2.out.cell 5
              have e6 : w8.cell? ⟨g2, 6, none⟩ = some (.int .u8 ((o.2.2.1.2.val : Nat) : Int)) := K2.out.cell 6
              have HC2 := Lib.hid (HC2.out w8 b8)
              clear b8 HC1 RA B5 PA
              cases r2
              · have F : Hid (false = oneR p k o) := by rw [Hid, F.out, TV.out]; rfl
                go_wp2_with fail
                refine HC2.out.mono ?_
                rintro e w9 ⟨rfl, b9⟩
                have B9 := Lib.hid (B8.out.trans (b9.mono B8.out.size))
                clear b9 HC2 l1 l2
                go_wp2
                go_ret
                exact ⟨ret_bool F.out, B9.out⟩
              go_wp2_with fail
              refine HC2.out.mono ?_
              rintro e w9 ⟨rfl, b9⟩
              have B9 := Lib.hid (B8.out.trans (b9.mono B8.out.size))
              have K1 := Lib.hid (K1.out.ext b9)
              have K2 := Lib.hid (K2.out.ext b9)
              have O1 := Lib.hid (O1.out.ext b9)
              clear b9 HC2 B8 a0 a1 a2 a3 e4 e5 e6
              have a0 : w9.cell? ⟨g1, 0, none⟩ = some (.int .u8 ((p.1.1.val : Nat) : Int)) := K1.out.cell 0
              have a1 : w9.cell? ⟨g1, 1, none⟩ = some (.int .u16 ((p.1.2.val : Nat) : Int)) := K1.out.cell 1
              have a3 : w9.cell? ⟨g1, 3, none⟩ = some (.slice (some ⟨b, off, none⟩) p.2.2.length c') := K1.out.cell 3
              have e0 : w9.cell? ⟨g2, 0, none⟩ = some (.int .u8 ((o.1.val : Nat) : Int)) := K2.out.cell 0
              have e1 : w9.cell? ⟨g2, 1, none⟩ = some (.int .u8 ((o.2.1.1.1.val : Nat) : Int)) := K2.out.cell 1
              have e2 : w9.cell? ⟨g2, 2, none⟩ = some (.int .u16 ((o.2.1.1.2.val : Nat) : Int)) := K2.out.cell 2
              have e3 : w9.cell? ⟨g2, 3, none⟩ = some (.int .u8 ((o.2.1.2.val : Nat) : Int)) := K2.out.cell 3
              have e4 : w9.cell? ⟨g2, 4, none⟩ = some (.int .u8 ((o.2.2.1.1.1.val : Nat) : Int)) := K2.out.cell 4
              have e5 : w9.cell? ⟨g2, 5, none⟩ = some (.int .u16 ((o.2.2.1.1.2.val : Nat) : Int)) := K2.out.cell 5
              have e6 : w9.cell? ⟨g2, 6, none⟩ = some (.int .u8 ((o.2.2.1.2.val : Nat) : Int)) := K2.out.cell 6
              have F : Hid ((decide (o.2.1.1 ≠ p.1) || (decide (o.2.2.1.1 ≠ p.1) || sameAt p o)) = oneR p k o) := by rw [Hid, F.out, TV.out]; rfl
              clear TV d2 d3 d4
              by_cases q1 : o.2.1.1 = p.1
              · by_cases q2 : o.2.2.1.1 = p.1
                · have NEAt : ∀ u : World, (binOp .neq 60 (.agg #[.int .u8 ((o.2.1.1.1.val : Nat) : Int), .int .u16 ((o.2.1.1.2.val : Nat) : Int)]) (.agg #[.int .u8 ((p.1.1.val : Nat) : Int), .int .u16 ((p.1.2.val : Nat) : Int)])).run Tryz.prog u = .ok (.bool false) u := fun u => (neqP o.2.1.1 p.1 u).trans (by rw [decide_eq_true q1]; rfl)
                  have NETo : ∀ u : World, (binOp .neq 60 (.agg #[.int .u8 ((o.2.2.1.1.1.val : Nat) : Int), .int .u16 ((o.2.2.1.1.2.val : Nat) : Int)]) (.agg #[.int .u8 ((p.1.1.val : Nat) : Int), .int .u16 ((p.1.2.val : Nat) : Int)])).run Tryz.prog u = .ok (.bool false) u := fun u => (neqP o.2.2.1.1 p.1 u).trans (by rw [decide_eq_true q2]; rfl)
                  have l1 := l1.out q1
                  have l2 := l2.out q2
                  obtain ⟨bb, oo, x1, hA, hbb, hx1, R1, _⟩ := O1.out.at_ (show o.2.1.2.val < p.2.2.length by omega)
                  injection hA with hA
                  injection hA with hA1 hA2 _
                  subst hA1 hA2
                  obtain ⟨b', o', x2, hA, hbb2, hx2, R2, _⟩ := O1.out.at_ (show o.2.2.1.2.val < p.2.2.length by omega)
                  injection hA with hA
                  injection hA with hA1 hA2 _
                  subst hA1 hA2
                  have F : Hid (decide (x1.2.1 = x2.2.1) = oneR p k o) := by
                    rw [Hid, ← F.out]
                    unfold sameAt atOf
                    rw [decide_eq_false (show ¬ o.2.1.1 ≠ p.1 from fun h => h q1), decide_eq_false (show ¬ o.2.2.1.1 ≠ p.1 from fun h => h q2), hx1, hx2]
                    simp
                  have s1 : w9.cell? ⟨b, off + o.2.1.2.val * 8 + 1, none⟩ = some (.int .u8 ((x1.2.1.1.1.val : Nat) : Int)) := R1 1 _ rfl
                  have s2 : w9.cell? ⟨b, off + o.2.1.2.val * 8 + 2, none⟩ = some (.int .u16 ((x1.2.1.1.2.val : Nat) : Int)) := R1 2 _ rfl
                  have s3 : w9.cell? ⟨b, off + o.2.1.2.val * 8 + 3, none⟩ = some (.int .u8 ((x1.2.1.2.val : Nat) : Int)) := R1 3 _ rfl
                  have t1 : w9.cell? ⟨b, off + o.2.2.1.2.val * 8 + 1, none⟩ = some (.int .u8 ((x2.2.1.1.1.val : Nat) : Int)) := R2 1 _ rfl
                  have t2 : w9.cell? ⟨b, off + o.2.2.1.2.val * 8 + 2, none⟩ = some (.int .u16 ((x2.2.1.1.2.val : Nat) : Int)) := R2 2 _ rfl
                  have t3 : w9.cell? ⟨b, off + o.2.2.1.2.val * 8 + 3, none⟩ = some (.int .u8 ((x2.2.1.2.val : Nat) : Int)) := R2 3 _ rfl
                  have EV' : ∀ u : World, (binOp .eql 98 (.agg #[.int .u8 ((x1.2.1.1.1.val : Nat) : Int), .int .u16 ((x1.2.1.1.2.val : Nat) : Int), .int .u8 ((x1.2.1.2.val : Nat) : Int)]) (.agg #[.int .u8 ((x2.2.1.1.1.val : Nat) : Int), .int .u16 ((x2.2.1.1.2.val : Nat) : Int), .int .u8 ((x2.2.1.2.val : Nat) : Int)])).run Tryz.prog u = .ok (.bool (decide (x1.2.1 = x2.2.1))) u := fun u => eqlV x1.2.1 x2.2.1 u
                  have j1 : ((o.2.1.2.val : Nat) : Int) < (p.2.2.length : Int) := by omega
                  have j2 : ((o.2.2.1.2.val : Nat) : Int) < (p.2.2.length : Int) := by omega
                  have j3 : 0 ≤ ((o.2.1.2.val : Nat) : Int) := by omega
                  have j4 : 0 ≤ ((o.2.2.1.2.val : Nat) : Int) := by omega
                  have j5 : ((o.2.1.2.val : Nat) : Int) < 256 := (u8_in _).2
                  have j6 : ((o.2.2.1.2.val : Nat) : Int) < 256 := (u8_in _).2
                  clear q1 q2 O1 hx1 hx2 R1 R2 l1 l2 HI c4 k4 T
                  generalize decide (x1.2.1 = x2.2.1) = res at *
                  go_wp2_with fail
                  go_quiet (fail)
                  go_wp2
                  go_ret
                  exact ⟨ret_bool F.out, below_drewN B9.out _⟩
                · have NEAt : ∀ u : World, (binOp .neq 60 (.agg #[.int .u8 ((o.2.1.1.1.val : Nat) : Int), .int .u16 ((o.2.1.1.2.val : Nat) : Int)]) (.agg #[.int .u8 ((p.1.1.val : Nat) : Int), .int .u16 ((p.1.2.val : Nat) : Int)])).run Tryz.prog u = .ok (.bool false) u := fun u => (neqP o.2.1.1 p.1 u).trans (by rw [decide_eq_true q1]; rfl)
                  have NETo : ∀ u : World, (binOp .neq 60 (.agg #[.int .u8 ((o.2.2.1.1.1.val : Nat) : Int), .int .u16 ((o.2.2.1.1.2.val : Nat) : Int)]) (.agg #[.int .u8 ((p.1.1.val : Nat) : Int), .int .u16 ((p.1.2.val : Nat) : Int)])).run Tryz.prog u = .ok (.bool true) u := fun u => (neqP o.2.2.1.1 p.1 u).trans (by rw [decide_eq_false q2]; rfl)
                  have F : Hid (true = oneR p k o) := by rw [Hid, ← F.out, decide_eq_true (show o.2.2.1.1 ≠ p.1 from q2)]; simp
                  clear q1 q2 O1 l1 l2 HI c4 k4 T
                  go_wp2_with fail
                  go_quiet (fail)
                  go_wp2
                  go_ret
                  exact ⟨ret_bool F.out, below_drewN B9.out _⟩
              · have NEAt : ∀ u : World, (binOp .neq 60 (.agg #[.int .u8 ((o.2.1.1.1.val : Nat) : Int), .int .u16 ((o.2.1.1.2.val : Nat) : Int)]) (.agg #[.int .u8 ((p.1.1.val : Nat) : Int), .int .u16 ((p.1.2.val : Nat) : Int)])).run Tryz.prog u = .ok (.bool true) u := fun u => (neqP o.2.1.1 p.1 u).trans (by rw [decide_eq_false q1]; rfl)
                have F : Hid (true = oneR p k o) := by rw [Hid, ← F.out, decide_eq_true (show o.2.1.1 ≠ p.1 from q1)]; simp
                clear q1 O1 l1 l2 HI c4 k4 T
                go_wp2_with fail
                go_quiet (fail)
                go_wp2
                go_ret
                exact ⟨ret_bool F.out, below_drewN B9.out _⟩
            · have d4 : (((o.1.val : Nat) : Int) == 4) = false := by have := kind_eq o 4; rw [decide_eq_false c4] at this; exact this
              have d2 : (((o.1.val : Nat) : Int) == 2) = false := by have := kind_eq o 2; rw [decide_eq_false (by omega)] at this; exact this
              have d3 : (((o.1.val : Nat) : Int) == 3) = false := by have := kind_eq o 3; rw [decide_eq_false (by omega)] at this; exact this
              rw [if_neg (by omega), if_neg c4] at TV
              have F : Hid (true = oneR p k o) := by rw [Hid, F.out, TV.out]
              clear TV c4 HGR T
              go_wp2
              go_ret
              exact ⟨ret_bool F.out, B5.out⟩
      · have d5 : decide ((4 : Int) ≤ ((o.1.val : Nat) : Int)) = false := decide_eq_false (by omega)
        go_loopw [8] (fun j wr => ∃ k : Nat, k ≤ i ∧ j = .int .i64 k ∧ Hid (True) ∧ ∃ u, wr = w6.drewN u) (fun j _ => i - (intOf j).toNat)
        case atStart => exact ⟨0, by omega, rfl, trivial, 0, rfl⟩
        case round =>
          obtain ⟨k, hk, rfl, T, u, rfl⟩ := hrel
          have hk0 : (0 : Int) ≤ (k : Int) := by omega
          by_cases hlk : k < i
          · have hlk2 : (k : Int) < (i : Int) := by omega
            go_wp2_with fail
            go_quiet (fail)
            go_wp2_with fail
            go_roundw
            case rel => exact ⟨k + 1, by omega, by go_num, trivial, _, rfl⟩
            case measure => simp [intOf]; omega
          · have hlk2 : ¬ ((k : Int) < (i : Int)) := by omega
            have hki : k = i := by omega
            subst hki
            have F : Hid (oneR p k o = tailV p o) := by rw [Hid, F.out, decide_eq_false k4]; simp
            clear HV V hvs
            have K1 := Lib.hid (K1.out.drewN u)
            have K2 := Lib.hid (K2.out.drewN u)
            have O1 := Lib.hid (O1.out.drewN u)
            have PA := Lib.hid (PA.out.ext (below_drewN (Below.refl _ _) u))
            have B5 := Lib.hid (below_drewN B5.out u)
            replace a0 : (w6.drewN u).cell? _ = _ := a0
            replace a1 : (w6.drewN u).cell? _ = _ := a1
            replace a3 : (w6.drewN u).cell? _ = _ := a3
            replace e0 : (w6.drewN u).cell? _ = _ := e0
            replace e1 : (w6.drewN u).cell? _ = _ := e1
            replace e2 : (w6.drewN u).cell? _ = _ := e2
            replace e3 : (w6.drewN u).cell? _ = _ := e3
            replace e4 : (w6.drewN u).cell? _ = _ := e4
            replace e5 : (w6.drewN u).cell? _ = _ := e5
            replace e6 : (w6.drewN u).cell? _ = _ := e6
            generalize w6.drewN u = w7 at *
            by_cases c2 : o.1.val = 2
            · have d2 : (((o.1.val : Nat) : Int) == 2) = true := by have := kind_eq o 2; rw [decide_eq_true c2] at this; exact this
              rw [if_pos (by omega)] at TV
              have RA := Lib.hid (op_at1 K2.out)
              have HC1 := Lib.hid (own18_any p o.2.1 1 w7 _ PA.out)
              have F : Hid (ownV p o.2.1 1 = oneR p k o) := by rw [Hid, F.out, TV.out]
              clear TV HGR
              generalize ownV p o.2.1 1 = r1 at *
              clear e1 e2 e3 e4 e5 e6 a0 a1 a3
              go_wp2_with (first
                | (refine wpList_load_row rfl 64 _ (by rfl) g1 (by rfl) _ _ _ _ K1.out underPat rfl infoPat ?_)
                | (refine wpList_load_mid rfl 98 _ (by rfl) g2 1 (by rfl) _ _ RA.out underVid rfl infoVid ?_))
              refine HC1.out.mono ?_
              rintro e w8 ⟨rfl, b8⟩
              have B8 := Lib.hid (B5.out.trans (b8.mono B5.out.size))
              clear b8 HC1
              go_wp2
              go_ret
              exact ⟨ret_bool F.out, B8.out⟩
            by_cases c3 : o.1.val = 3
            · have d2 : (((o.1.val : Nat) : Int) == 2) = false := by have := kind_eq o 2; rw [decide_eq_false c2] at this; exact this
              have d3 : (((o.1.val : Nat) : Int) == 3) = true := by have := kind_eq o 3; rw [decide_eq_true c3] at this; exact this
              rw [if_pos (by omega)] at TV
              have RA := Lib.hid (op_at1 K2.out)
              have HC1 := Lib.hid (own18_any p o.2.1 1 w7 _ PA.out)
              have F : Hid (ownV p o.2.1 1 = oneR p k o) := by rw [Hid, F.out, TV.out]
              clear TV HGR
              generalize ownV p o.2.1 1 = r1 at *
              clear e1 e2 e3 e4 e5 e6 a0 a1 a3
              go_wp2_with (first
                | (refine wpList_load_row rfl 64 _ (by rfl) g1 (by rfl) _ _ _ _ K1.out underPat rfl infoPat ?_)
                | (refine wpList_load_mid rfl 98 _ (by rfl) g2 1 (by rfl) _ _ RA.out underVid rfl infoVid ?_))
              refine HC1.out.mono ?_
              rintro e w8 ⟨rfl, b8⟩
              have B8 := Lib.hid (B5.out.trans (b8.mono B5.out.size))
              clear b8 HC1
              go_wp2
              go_ret
              exact ⟨ret_bool F.out, B8.out⟩
            have d4 : (((o.1.val : Nat) : Int) == 4) = false := by have := kind_eq o 4; rw [decide_eq_false (by omega)] at this; exact this
            have d2 : (((o.1.val : Nat) : Int) == 2) = false := by have := kind_eq o 2; rw [decide_eq_false c2] at this; exact this
            have d3 : (((o.1.val : Nat) : Int) == 3) = false := by have := kind_eq o 3; rw [decide_eq_false c3] at this; exact this
            rw [if_neg (by omega), if_neg (by omega)] at TV
            have F : Hid (true = oneR p k o) := by rw [Hid, F.out, TV.out]
            clear TV c2 c3 HGR
            go_wp2
            go_ret
            exact ⟨ret_bool F.out, B5.out⟩
end Go.Proofs.YtdafiipedlglpaaGreatDoor

/- Whether a patch may be: the document's, walked. -/
namespace Go.Proofs.YtdafiipedlglpaaGreatDoor
open Go.RowKit

def headB (p : PatV) : Bool := pidOk ((p.1.1.val : Nat) : Int) ((p.1.2.val : Nat) : Int) && (decide (1 ≤ p.2.2.length) && (decide (p.2.2.length ≤ 200) && decide (p.2.1 = depsV p.1 p.2.2)))
theorem patB_head (p : PatV) : patB p = (headB p && onesB p p.2.2.length) := by
  unfold patB headB
  simp only [Bool.and_assoc]
theorem headB_len {p : PatV} (h : headB p = true) : p.2.2.length ≤ 200 := by
  unfold headB at h
  simp only [Bool.and_eq_true, decide_eq_true_eq] at h
  exact h.2.2.1
theorem u16_in (v : Fin 65536) : 0 ≤ ((v.val : Nat) : Int) ∧ ((v.val : Nat) : Int) < 65536 := ⟨by omega, by have := v.isLt; omega⟩
theorem ret_drewn {w w' : World} (h : ∃ n, w' = w.drewN n) : Below w.heap.size w w' := by obtain ⟨n, rfl⟩ := h; exact below_drewN (Below.refl _ _) _
set_option maxRecDepth 100000 in
set_option maxHeartbeats 8000000 in
theorem rgood18_any (p : PatV) (w : World) (cs : List Value) (hp : PatAt w cs p) :
    Calls Tryz.prog 29 #[.agg cs.toArray] w (RetB w (.bool (patB p))) := by
  have HPAT := Lib.hid hp
  obtain ⟨⟨A, c, A', c', rfl, P1, O1⟩, m1, m2⟩ := hp
  have hm2 := m2
  unfold maxLen at hm2
  have K1 : Hid (Blk (w.alloc (.cells (patC p.1 A p.2.1.length c A' p.2.2.length c').toArray 64)) w.heap.size 64 (patC p.1 A p.2.1.length c A' p.2.2.length c').toArray) := Blk.new _ _ _
  have B0 : Hid (Below w.heap.size w (w.alloc (.cells (patC p.1 A p.2.1.length c A' p.2.2.length c').toArray 64))) := below_new _ _
  go_enter Tryz.func29, Tryz.ntmps29
  go_upto_region 1 with fail
  generalize hw2 : (w.alloc (.cells (patC p.1 A p.2.1.length c A' p.2.2.length c').toArray 64)) = w2 at *
  clear hw2
  have PA := Lib.hid (HPAT.out.ext B0.out)
  have O1 := Lib.hid (O1.ext B0.out)
  have P1 := Lib.hid (P1.ext B0.out)
  generalize hg1 : w.heap.size = g1 at K1 ⊢
  clear hg1 HPAT
  have GV : Hid (patB p = (headB p && onesB p p.2.2.length)) := patB_head p
  go_cut [30] (fun s wx => s = .bool (!headB p) ∧ Below w2.heap.size w2 wx)
  case first =>
    clear GV PA
    have a0 : w2.cell? ⟨g1, 0, none⟩ = some (.int .u8 ((p.1.1.val : Nat) : Int)) := K1.out.cell 0
    have a1 : w2.cell? ⟨g1, 1, none⟩ = some (.int .u16 ((p.1.2.val : Nat) : Int)) := K1.out.cell 1
    have a2 : w2.cell? ⟨g1, 2, none⟩ = some (.slice A p.2.1.length c) := K1.out.cell 2
    have a3 : w2.cell? ⟨g1, 3, none⟩ = some (.slice A' p.2.2.length c') := K1.out.cell 3
    have hgl : g1 < w2.heap.size := K1.out.lt
    have HG : Hid (∀ u : World, Calls Tryz.prog 102 #[.agg #[.int .u8 ((p.1.1.val : Nat) : Int), .int .u16 ((p.1.2.val : Nat) : Int)]] u (RetB u (.bool (pidOk ((p.1.1.val : Nat) : Int) ((p.1.2.val : Nat) : Int))))) := fun u => rpgood_any _ _ u (u8_in _) (u16_in _)
    have FH : Hid (headB p = (pidOk ((p.1.1.val : Nat) : Int) ((p.1.2.val : Nat) : Int) && (decide (1 ≤ p.2.2.length) && (decide (p.2.2.length ≤ 200) && decide (p.2.1 = depsV p.1 p.2.2))))) := rfl
    generalize hok : pidOk ((p.1.1.val : Nat) : Int) ((p.1.2.val : Nat) : Int) = ok at *
    clear hok
    have HD : Hid (∀ u : World, Below w2.heap.size w2 u → p.2.2.length ≤ 300 → Calls Tryz.prog 104 #[.agg #[.int .u8 ((p.1.1.val : Nat) : Int), .int .u16 ((p.1.2.val : Nat) : Int)], .slice A' p.2.2.length c'] u (RetSl u 2 (depsV p.1 p.2.2).length ((depsV p.1 p.2.2).flatMap encP))) := fun u hu hl => rdepsP p.1 p.2.2 u A' p.2.2.length c' hl (O1.out.ext hu)
    have KS : Hid (∀ w', Below w2.heap.size w2 w' → (Below w2.heap.size w2 w' ∧ w'.cell? ⟨g1, 0, none⟩ = some (.int .u8 ((p.1.1.val : Nat) : Int)) ∧ w'.cell? ⟨g1, 1, none⟩ = some (.int .u16 ((p.1.2.val : Nat) : Int)) ∧ w'.cell? ⟨g1, 2, none⟩ = some (.slice A p.2.1.length c) ∧ w'.cell? ⟨g1, 3, none⟩ = some (.slice A' p.2.2.length c'))) := fun w' h =>
      ⟨h, (h.cell (p := ⟨g1, 0, none⟩) hgl).trans a0, (h.cell (p := ⟨g1, 1, none⟩) hgl).trans a1, (h.cell (p := ⟨g1, 2, none⟩) hgl).trans a2, (h.cell (p := ⟨g1, 3, none⟩) hgl).trans a3⟩
    have HE := Lib.hid (fun (u : World) (A1 : Option Addr) (c1 : Nat) (h : Below w2.heap.size w2 u) (hs : Sl u u.heap.size 2 A1 (depsV p.1 p.2.2).length ((depsV p.1 p.2.2).flatMap encP)) => rsameP p.2.1 (depsV p.1 p.2.2) u A A1 p.2.1.length (depsV p.1 p.2.2).length c c1 (P1.out.ext h) ⟨rfl, hs⟩ m1)
    have c0 := ext_cell a0 hgl
    have c1 := ext_cell a1 hgl
    have c2 := ext_cell a2 hgl
    have c3 := ext_cell a3 hgl
    clear K1 P1
    by_cases h1 : 1 ≤ p.2.2.length
    · have d1 : decide ((p.2.2.length : Int) < 1) = false := decide_eq_false (by omega)
      have n1 : decide (p.2.2.length < 1) = false := decide_eq_false (by omega)
      by_cases h2 : p.2.2.length ≤ 200
      · have d2 : decide ((200 : Int) < (p.2.2.length : Int)) = false := decide_eq_false (by omega)
        have n2 : decide (200 < p.2.2.length) = false := decide_eq_false (by omega)
        have HD := Lib.hid (fun u hu => HD.out u hu (by omega))
        generalize hdv : depsV p.1 p.2.2 = dv at *
        clear hdv
        cases ok
        · have F : Hid (headB p = false) := by rw [Hid, FH.out]; rfl
          clear h1 h2 FH KS HE HD
          refine wp_region_ext mixedS (by kernel_rfl) ?_
          repeat (first | go_big_quiet_skip | go_big_quiet_step ((go_at_call 102; with_reducible exact ext_call (HG.out _))))
          refine wpQuiet_nil ?_
          rintro _ ⟨z, rfl⟩
          have W := Lib.hid z.h
          generalize z.w = w3 at *
          go_wp2_with fail
          go_meet
          case rel => exact ⟨by rw [F.out]; rfl, W.out⟩
        · by_cases h3 : p.2.1 = dv
          · have F : Hid (headB p = true) := by rw [Hid, FH.out, decide_eq_true h1, decide_eq_true h2, decide_eq_true h3]; rfl
            rw [decide_eq_true h3] at HE
            clear h1 h2 h3 FH c0 c1 c2 c3 a0 a1 a2 a3
            go_region_held3 (fun w' => (Below w2.heap.size w2 w' ∧ w'.cell? ⟨g1, 0, none⟩ = some (.int .u8 ((p.1.1.val : Nat) : Int)) ∧ w'.cell? ⟨g1, 1, none⟩ = some (.int .u16 ((p.1.2.val : Nat) : Int)) ∧ w'.cell? ⟨g1, 2, none⟩ = some (.slice A p.2.1.length c) ∧ w'.cell? ⟨g1, 3, none⟩ = some (.slice A' p.2.2.length c')))
              (first | assumption | exact KS.out _ ((Below.refl _ _).drew) | (refine KS.out _ (ext_trans ?_ hb); go_split_ands; assumption))
              (first
                | (go_at_call 102; refine (HG.out _).mono ?_; rintro e w3 ⟨rfl, hb⟩)
                | (go_at_call 104; refine (HD.out _ (by first | assumption | (go_split_ands; assumption))).mono ?_; rintro e w3 ⟨A1, c1, rfl, hc1, hs1, hb⟩)
                | (go_at_call 103; refine (HE.out _ _ _ (by first | assumption | (go_split_ands; assumption)) hs1).mono ?_; rintro e w3 ⟨rfl, hn⟩; have hb := ret_drewn hn))
            all_goals (go_split_ands; go_wp2_with fail; go_meet)
            all_goals exact ⟨by rw [F.out]; rfl, by assumption⟩
          · have F : Hid (headB p = false) := by rw [Hid, FH.out, decide_eq_true h1, decide_eq_true h2, decide_eq_false h3]; rfl
            rw [decide_eq_false h3] at HE
            clear h1 h2 h3 FH c0 c1 c2 c3 a0 a1 a2 a3
            go_region_held3 (fun w' => (Below w2.heap.size w2 w' ∧ w'.cell? ⟨g1, 0, none⟩ = some (.int .u8 ((p.1.1.val : Nat) : Int)) ∧ w'.cell? ⟨g1, 1, none⟩ = some (.int .u16 ((p.1.2.val : Nat) : Int)) ∧ w'.cell? ⟨g1, 2, none⟩ = some (.slice A p.2.1.length c) ∧ w'.cell? ⟨g1, 3, none⟩ = some (.slice A' p.2.2.length c')))
              (first | assumption | exact KS.out _ ((Below.refl _ _).drew) | (refine KS.out _ (ext_trans ?_ hb); go_split_ands; assumption))
              (first
                | (go_at_call 102; refine (HG.out _).mono ?_; rintro e w3 ⟨rfl, hb⟩)
                | (go_at_call 104; refine (HD.out _ (by first | assumption | (go_split_ands; assumption))).mono ?_; rintro e w3 ⟨A1, c1, rfl, hc1, hs1, hb⟩)
                | (go_at_call 103; refine (HE.out _ _ _ (by first | assumption | (go_split_ands; assumption)) hs1).mono ?_; rintro e w3 ⟨rfl, hn⟩; have hb := ret_drewn hn))
            all_goals (go_split_ands; go_wp2_with fail; go_meet)
            all_goals exact ⟨by rw [F.out]; rfl, by assumption⟩
      · have d2 : decide ((200 : Int) < (p.2.2.length : Int)) = true := decide_eq_true (by omega)
        have n2 : decide (200 < p.2.2.length) = true := decide_eq_true (by omega)
        have F : Hid (headB p = false) := by rw [Hid, FH.out, decide_eq_false h2]; simp
        clear h1 h2 FH KS HE HD
        cases ok
        · refine wp_region_ext mixedS (by kernel_rfl) ?_
          repeat (first | go_big_quiet_skip | go_big_quiet_step ((go_at_call 102; with_reducible exact ext_call (HG.out _))))
          refine wpQuiet_nil ?_
          rintro _ ⟨z, rfl⟩
          have W := Lib.hid z.h
          generalize z.w = w3 at *
          go_wp2_with fail
          go_meet
          case rel => exact ⟨by rw [F.out]; rfl, W.out⟩
        · refine wp_region_ext mixedS (by kernel_rfl) ?_
          repeat (first | go_big_quiet_skip | go_big_quiet_step ((go_at_call 102; with_reducible exact ext_call (HG.out _))))
          refine wpQuiet_nil ?_
          rintro _ ⟨z, rfl⟩
          have W := Lib.hid z.h
          generalize z.w = w3 at *
          go_wp2_with fail
          go_meet
          case rel => exact ⟨by rw [F.out]; rfl, W.out⟩
    · have d1 : decide ((p.2.2.length : Int) < 1) = true := decide_eq_true (by omega)
      have n1 : decide (p.2.2.length < 1) = true := decide_eq_true (by omega)
      have F : Hid (headB p = false) := by rw [Hid, FH.out, decide_eq_false h1]; simp
      clear h1 FH KS HE HD
      cases ok
      · refine wp_region_ext mixedS (by kernel_rfl) ?_
        repeat (first | go_big_quiet_skip | go_big_quiet_step ((go_at_call 102; with_reducible exact ext_call (HG.out _))))
        refine wpQuiet_nil ?_
        rintro _ ⟨z, rfl⟩
        have W := Lib.hid z.h
        generalize z.w = w3 at *
        go_wp2_with fail
        go_meet
        case rel => exact ⟨by rw [F.out]; rfl, W.out⟩
      · refine wp_region_ext mixedS (by kernel_rfl) ?_
        repeat (first | go_big_quiet_skip | go_big_quiet_step ((go_at_call 102; with_reducible exact ext_call (HG.out _))))
        refine wpQuiet_nil ?_
        rintro _ ⟨z, rfl⟩
        have W := Lib.hid z.h
        generalize z.w = w3 at *
        go_wp2_with fail
        go_meet
        case rel => exact ⟨by rw [F.out]; rfl, W.out⟩
  case rest =>
    obtain ⟨wx, rfl⟩ : ∃ wx, wx = wc := ⟨_, rfl⟩
    obtain ⟨rfl, hbx⟩ := hcut
    have K1 := Lib.hid (K1.out.ext hbx)
    have PA := Lib.hid (PA.out.ext hbx)
    have O1 := Lib.hid (O1.out.ext hbx)
    have B3 := Lib.hid (B0.out.trans (hbx.mono B0.out.size))
    have a0 : wx.cell? ⟨g1, 0, none⟩ = some (.int .u8 ((p.1.1.val : Nat) : Int)) := K1.out.cell 0
    have a1 : wx.cell? ⟨g1, 1, none⟩ = some (.int .u16 ((p.1.2.val : Nat) : Int)) := K1.out.cell 1
    have a3 : wx.cell? ⟨g1, 3, none⟩ = some (.slice A' p.2.2.length c') := K1.out.cell 3
    clear hbx B0 P1
    cases hh : headB p
    · rw [hh] at GV
      clear hh
      go_wp2
      go_ret
      exact ⟨ret_bool (by rw [GV.out]; rfl), B3.out⟩
    rw [hh] at GV
    have GV : Hid (patB p = onesB p p.2.2.length) := GV.out
    have HL : Hid (p.2.2.length ≤ 200) := headB_len hh
    clear hh
    simp only [Bool.not_true]
    go_wp2_with fail
    go_loopw [3] (fun i wr => ∃ k : Nat, k ≤ p.2.2.length ∧ i = .int .i64 k ∧ Hid (onesB p k = true) ∧ Hid (Below wx.heap.size wx wr)) (fun i _ => p.2.2.length - (intOf i).toNat)
    case atStart => exact ⟨0, by omega, rfl, rfl, Below.refl _ _⟩
    case round =>
      obtain ⟨k, hk, rfl, T, B⟩ := hrel
      have hk0 : (0 : Int) ≤ (k : Int) := by omega
      have b3 : wr.cell? ⟨g1, 3, none⟩ = some (.slice A' p.2.2.length c') := (K1.out.ext B.out).cell 3
      by_cases hlt : k < p.2.2.length
      · have hlk : (k : Int) < (p.2.2.length : Int) := by omega
        obtain ⟨o, ho⟩ : ∃ o, p.2.2[k]? = some o := ⟨_, List.getElem?_eq_getElem hlt⟩
        have K4 := Lib.hid (K1.out.ext B.out)
        have HC := Lib.hid (one18_any p k o wr _ (PA.out.ext B.out) ho)
        have N1 := Lib.hid (onesB_snoc ho)
        have N2 := Lib.hid (onesB_false ho hlt)
        clear ho a0 a1 a3
        generalize oneR p k o = r at *
        cases r
        · have N := Lib.hid (N2.out rfl)
          clear N1 N2
          go_wp2_with (refine wpList_load_row rfl 64 _ (by rfl) g1 (by rfl) _ _ _ _ K4.out underPat rfl infoPat ?_)
          refine HC.out.mono ?_
          rintro e w5 ⟨rfl, b5⟩
          have B5 := Lib.hid (B.out.trans (b5.mono B.out.size))
          clear b5 HC b3
          go_wp2
          go_ret
          exact ⟨ret_bool (by rw [GV.out, N.out]), B3.out.trans (B5.out.mono B3.out.size)⟩
        · have N : Hid (onesB p (k + 1) = true) := by rw [Hid, N1.out, T.out]; rfl
          clear N1 N2
          go_wp2_with (refine wpList_load_row rfl 64 _ (by rfl) g1 (by rfl) _ _ _ _ K4.out underPat rfl infoPat ?_)
          refine HC.out.mono ?_
          rintro e w5 ⟨rfl, b5⟩
          have B5 := Lib.hid (B.out.trans (b5.mono B.out.size))
          clear b5 HC b3
          go_wp2_with fail
          go_roundw
          case rel => exact ⟨k + 1, by omega, by go_num, N.out, B5.out⟩
          case measure => simp [intOf]; omega
      · have hk : k = p.2.2.length := by omega
        subst hk
        have hlk : ¬ ((p.2.2.length : Int) < (p.2.2.length : Int)) := by omega
        go_wp2
        go_ret
        exact ⟨ret_bool (by rw [GV.out, T.out]), B3.out.trans (B.out.mono B3.out.size)⟩
end Go.Proofs.YtdafiipedlglpaaGreatDoor

/- Which patches come ahead: the program's, walked. -/
namespace Go.Proofs.YtdafiipedlglpaaGreatDoor
open Go.RowKit

abbrev zeroO : Array Value := #[.int .u8 0, .int .u8 0, .int .u16 0, .int .u8 0, .int .u8 0, .int .u16 0, .int .u8 0, .string ByteArray.empty]
theorem allocO (w : World) : (Instr.alloc 152 true (.tuple #[])).run Tryz.prog w = .ok (.pointer (some ⟨w.heap.size, 0, none⟩)) (w.alloc (.cells zeroO 152)) := by kernel_rfl
theorem allocV' (w : World) : (Instr.alloc 98 true (.tuple #[])).run Tryz.prog w = .ok (.pointer (some ⟨w.heap.size, 0, none⟩)) (w.alloc (.cells #[.int .u8 0, .int .u16 0, .int .u8 0] 98)) := by kernel_rfl
set_option maxRecDepth 100000 in
set_option maxHeartbeats 8000000 in
theorem depsP (id : PidV) (l : List OpV) (w : World) (A : Option Addr) (n c : Nat) (hm : n ≤ 300) (h : OpsAt w A n l) :
    Calls Tryz.prog 144 #[.agg (encP id).toArray, .slice A n c] w (OwnedRet w 60 2 (depsV id l).length ((depsV id l).flatMap encP)) := by
  have L := Lib.hid h
  clear h
  have i1 : 0 ≤ ((id.2.val : Nat) : Int) := by omega
  have i2 : ((id.2.val : Nat) : Int) < 65536 := by have := id.2.isLt; omega
  have i3 : 0 ≤ ((id.1.val : Nat) : Int) := by omega
  have i4 : ((id.1.val : Nat) : Int) < 256 := by have := id.1.isLt; omega
  have K : Hid (Blk (w.alloc (.cells (encP id).toArray 60)) w.heap.size 60 (encP id).toArray) := Blk.new _ _ _
  have B0 : Hid (Below w.heap.size w (w.alloc (.cells (encP id).toArray 60))) := below_new _ _
  have hz : (w.alloc (.cells (encP id).toArray 60)).heap.size = w.heap.size + 1 := by go_size
  have p0 : (w.alloc (.cells (encP id).toArray 60)).cell? ⟨w.heap.size, 0, none⟩ = some (.int .u8 ((id.1.val : Nat) : Int)) := K.out.cell 0
  have p1 : (w.alloc (.cells (encP id).toArray 60)).cell? ⟨w.heap.size, 1, none⟩ = some (.int .u16 ((id.2.val : Nat) : Int)) := K.out.cell 1
  have R1 : Hid ((w.alloc (.cells (encP id).toArray 60)).rangeAt w.heap.size 0 (encP id)) := blk_sub K.out fun j v hv => by simpa using hv
  have L1 := Lib.hid (L.out.ext B0.out)
  clear L K
  have hf := firstDep_cases id
  generalize ((id.2.val : Nat) : Int) = s at p1 i1 i2 hf
  generalize ((id.1.val : Nat) : Int) = u at p0 i3 i4 hf
  go_enter Tryz.func144, Tryz.ntmps144
  rcases hf with ⟨h1, hfd⟩ | ⟨h1, first, hfd, hfe⟩
  case' inl => (
    go_upto_region 4 with fail
    have O1 : Hid ((w.alloc (.cells (encP id).toArray 60)).ownsRow (w.heap.size + 1) 60 2 (.slice none 0 0) (rawDeps id (l.take 0)).length ((rawDeps id (l.take 0)).flatMap encP)) := by
      rw [Hid, raw_nil, hfd]; exact World.ownsRow_nil _ _ _ _
    have B1 := Lib.hid (Below.refl (w.heap.size + 1) (w.alloc (.cells (encP id).toArray 60))))
  case' inr => (
    go_upto_region 4 with (first | (refine wpList_lit1 pidSl (encP_len first) (by omega) (by rw [hfe.out]; rfl) ?_) | (at_builtin; refine wpList_push pidSl (base := w.heap.size + 1) (World.ownsRow_nil _ _ _ _) (encP first) rfl (encP_one first) (by rw [hz]; exact Nat.le_refl _) (by decide) (by decide) (by rfl) (by rfl) (by rfl) ?_; intro v1 w1 own1 bel1))
    have O1 : Hid (w1.ownsRow (w.heap.size + 1) 60 2 v1 (rawDeps id (l.take 0)).length ((rawDeps id (l.take 0)).flatMap encP)) := by
      rw [Hid, raw_nil, hfd]; simpa using own1
    have B1 := Lib.hid bel1
    clear own1 bel1 hfe)
  all_goals (
    clear hfd h1 p0 p1 i1 i2 i3 i4
    go_wp2_with fail
    go_loopw [5, 24] (fun v i wr => ∃ (k : Nat), k ≤ n ∧ i = .int .i64 k ∧ Hid (wr.ownsRow (w.heap.size + 1) 60 2 v (rawDeps id (l.take k)).length ((rawDeps id (l.take k)).flatMap encP)) ∧ Hid (Below (w.heap.size + 1) (w.alloc (.cells (encP id).toArray 60)) wr)) (fun _ i _ => n - (intOf i).toNat)
    case atStart => exact ⟨0, by omega, rfl, O1, B1⟩
    case round =>
      clear O1 B1
      obtain ⟨k, hk, rfl, O, B⟩ := hrel
      have hk0 : (0 : Int) ≤ (k : Int) := by omega
      have hws : w.heap.size + 1 ≤ wr.heap.size := by have := B.out.size; rw [hz] at this; exact this
      by_cases hlt : k < n
      · obtain ⟨b, o, x, rfl, hb, hx, R0, hok⟩ := L1.out.at_ hlt
        rw [hz] at hb
        have R0 := Lib.hid (rangeAt_below R0 B.out hb)
        have hlk : (k : Int) < (n : Int) := by omega
        have S := Lib.hid (raw_snoc (id := id) hx)
        clear hx hok
        have K1 : Hid (((wr.alloc (.cells zeroO 152)).setRow wr.heap.size (encO x).toArray).rangeAt wr.heap.size 0 (encO x)) := blk_sub ((Blk.new _ _ _).row _) fun j v hv => by simpa using hv
        have b1 : Hid (Below wr.heap.size wr ((wr.alloc (.cells zeroO 152)).setRow wr.heap.size (encO x).toArray)) := below_setRow ((Below.refl _ _).alloc (Nat.le_refl _) _) (Nat.le_refl _) _
        go_upto_region 7 with (first
          | (refine wpList_load_mid rfl 152 _ (by rfl) _ _ (by rfl) _ _ R0.out underOp rfl infoOp ?_)
          | (refine wpList_alloced (allocO _) ?_)
          | (refine wpList_store_row rfl 152 _ _ (by rfl) wr.heap.size (encO x).toArray (by rfl) (by rfl) _ _ (Blk.new _ _ _) infoOp rfl (all_oneCell_toArray (encO_one x)) ?_))
        generalize hw1 : ((wr.alloc (.cells zeroO 152)).setRow wr.heap.size (encO x).toArray) = w1 at *
        clear hw1
        go_wp2_with (refine wpList_load_mid rfl 152 _ rfl _ _ (by rfl) _ _ K1.out underOp rfl infoOp ?_)
        refine (refsW x _).mono ?_
        rintro e w2 ⟨v2, rfl, V2, b2⟩
        have hws1 : w.heap.size + 1 ≤ w1.heap.size := Nat.le_trans hws b1.out.size
        have O2 := Lib.hid (own_ext (own_ext O.out b1.out) b2)
        have B2 := Lib.hid ((B.out.trans (b1.out.mono hws)).trans (b2.mono hws1))
        clear K1 b1 hws1
        have V2 := Lib.hid (own_base V2 (Nat.zero_le _))
        clear b2 O R0
        obtain ⟨A2, c2, rfl, hc2, _⟩ := Sl.of_own V2.out
        go_wp2_with fail
        have e0 : rawDeps id (l.take k) ++ partDeps id ((refsO x).take 0) = rawDeps id (l.take k) := by simp [partDeps]
        go_loopw [5, 31] (fun v i wr => ∃ (j : Nat), j ≤ (refsO x).length ∧ i = .int .i64 j ∧ Hid (wr.ownsRow (w.heap.size + 1) 60 2 v (rawDeps id (l.take k) ++ partDeps id ((refsO x).take j)).length ((rawDeps id (l.take k) ++ partDeps id ((refsO x).take j)).flatMap encP)) ∧ Hid (Below (w.heap.size + 1) (w.alloc (.cells (encP id).toArray 60)) wr) ∧ Hid (wr.ownsRow 0 98 3 (.slice A2 (refsO x).length c2) (refsO x).length ((refsO x).flatMap encV))) (fun _ i _ => (refsO x).length - (intOf i).toNat)
        case atStart => exact ⟨0, by omega, rfl, by rw [Hid, e0]; exact O2.out, B2, V2⟩
        case round =>
          clear O2 B2 V2 e0
          obtain ⟨j, hj, rfl, O3, B3, V3⟩ := hrel
          have hj0 : (0 : Int) ≤ (j : Int) := by omega
          have hr2 := refsO_le x
          by_cases hjl : j < (refsO x).length
          · obtain ⟨A', c', he, hcc, P3⟩ := VidsAt.of_own V3.out rfl
            injection he with e1 e2 e3
            subst e1
            clear e2 e3 hcc
            obtain ⟨b', o', y, rfl, hb', hy, R3⟩ := P3.at_ hjl
            have R3 := Lib.hid R3
            have hbz : w.heap.size + 1 ≤ wr.heap.size := by have := B3.out.size; rw [hz] at this; exact this
            have hlj : (j : Int) < ((refsO x).length : Int) := by omega
            have NE := fun u => neqP y.1 id u
            have K1 : Hid (((wr.alloc (.cells #[.int .u8 0, .int .u16 0, .int .u8 0] 98)).setRow wr.heap.size (encV y).toArray).rangeAt wr.heap.size 0 (encP y.1)) := vid_pid_range (blk_sub ((Blk.new _ _ _).row _) fun j v hv => by simpa using hv)
            have b1 : Hid (Below wr.heap.size wr ((wr.alloc (.cells #[.int .u8 0, .int .u16 0, .int .u8 0] 98)).setRow wr.heap.size (encV y).toArray)) := below_setRow ((Below.refl _ _).alloc (Nat.le_refl _) _) (Nat.le_refl _) _
            clear P3
            go_upto_region 10 with (first
              | (refine wpList_load_mid rfl 98 _ (by rfl) _ _ (by rfl) _ _ R3.out underVid rfl infoVid ?_)
              | (refine wpList_alloced (allocV' _) ?_)
              | (refine wpList_store_row rfl 98 _ _ (by rfl) wr.heap.size (encV y).toArray (by rfl) (by rfl) _ _ (Blk.new _ _ _) infoVid rfl (all_oneCell_toArray (encV_one y)) ?_))
            generalize hw1 : ((wr.alloc (.cells #[.int .u8 0, .int .u16 0, .int .u8 0] 98)).setRow wr.heap.size (encV y).toArray) = w3 at *
            clear hw1
            have O3 := Lib.hid (own_ext O3.out b1.out)
            have V3 := Lib.hid (own_ext V3.out b1.out)
            have B3 := Lib.hid (B3.out.trans (b1.out.mono hbz))
            have R2 := Lib.hid (rangeAt_below R1.out B3.out (Nat.lt_succ_self w.heap.size))
            have hws3 : w.heap.size + 1 ≤ w3.heap.size := Nat.le_trans hbz b1.out.size
            clear b1 R3
            by_cases hv : y.1 = id
            · have E := Lib.hid (part_snoc_out hy hv)
              have NE' : ∀ u : World, (binOp .neq 60 (.agg (encP y.1).toArray) (.agg (encP id).toArray)).run Tryz.prog u = .ok (.bool false) u := fun u => by rw [NE, decide_eq_true hv]; rfl
              clear NE hv hy
              rw [← E.out] at O3
              go_wp2_with (first | (refine wpList_load_mid rfl 60 _ rfl _ _ (by rfl) _ _ K1.out underPid rfl infoPid ?_) | (refine wpList_load_mid rfl 60 _ rfl _ _ (by rfl) _ _ R2.out underPid rfl infoPid ?_))
              go_roundw
              case rel => exact ⟨j + 1, by omega, by go_num, O3, B3, V3⟩
              case measure => simp [intOf]; omega
            · have E := Lib.hid (part_snoc_in hy hv)
              have NE' : ∀ u : World, (binOp .neq 60 (.agg (encP y.1).toArray) (.agg (encP id).toArray)).run Tryz.prog u = .ok (.bool true) u := fun u => by rw [NE, decide_eq_false hv]; rfl
              clear NE hv hy
              have hlen : (rawDeps id (l.take k) ++ partDeps id ((refsO x).take j)).length ≤ 1000 := by
                have h1 := rawDeps_le id (l.take k)
                have h2 := part_le id (refsO x) j
                have h3 := refsO_le x
                rw [List.length_take] at h1
                rw [List.length_append]; omega
              have E2 : rawDeps id (l.take k) ++ partDeps id ((refsO x).take (j + 1)) = (rawDeps id (l.take k) ++ partDeps id ((refsO x).take j)) ++ [y.1] := by rw [E.out, List.append_assoc]
              have E2 := Lib.hid E2
              clear E
              generalize rawDeps id (l.take k) ++ partDeps id ((refsO x).take j) = acc at O3 E2 hlen
              go_wp2_with (first | (refine wpList_load_mid rfl 60 _ rfl _ _ (by rfl) _ _ K1.out underPid rfl infoPid ?_) | (refine wpList_load_mid rfl 60 _ rfl _ _ (by rfl) _ _ R2.out underPid rfl infoPid ?_) | (refine wpList_lit1 pidSl (encP_len y.1) (by omega) (by rfl) ?_) | (at_builtin; refine wpList_pushOnly pidSl O3.out (encP y.1) rfl (encP_one y.1) hws3 (by omega) (by unfold maxLen; omega) _ rfl (by rfl) (by rfl) (by rfl) ?_; intro v5 w5 own5 gr5 bel5))
              have V5 := Lib.hid ((V3.out.alloc _).kept gr5 (own_ne (V3.out.alloc _) (O3.out.alloc (.cells (encP y.1).toArray 60)) (by decide)))
              have B5 := Lib.hid (B3.out.trans bel5)
              have O5 : Hid (w5.ownsRow (w.heap.size + 1) 60 2 v5 (rawDeps id (l.take k) ++ partDeps id ((refsO x).take (j + 1))).length ((rawDeps id (l.take k) ++ partDeps id ((refsO x).take (j + 1))).flatMap encP)) := by
                rw [Hid, E2.out]; simp only [flat_snocP, List.length_append, List.length_cons, List.length_nil, Nat.zero_add]; exact own5
              clear own5 bel5 gr5 O3 B3 V3
              go_roundw
              case rel => exact ⟨j + 1, by omega, by go_num, O5, B5, V5⟩
              case measure => simp [intOf]; omega
          · have E := Lib.hid (part_all (id := id) (show j = (refsO x).length by omega))
            rw [E.out, ← S.out] at O3
            have hlj : ¬ ((j : Int) < ((refsO x).length : Int)) := by omega
            clear E S
            go_wp2_with fail
            go_roundw
            case rel => exact ⟨k + 1, by omega, by go_num, O3, B3⟩
            case measure => simp [intOf]; omega
      · rw [List.take_of_length_le (by rw [L1.out.len]; omega)] at O
        have hlen : (rawDeps id l).length ≤ 100000 := by
          have h1 := rawDeps_le id l
          rw [L1.out.len] at h1; omega
        obtain ⟨A3, c3, rfl, hc3, P3⟩ := PidsAt.of_own O.out rfl
        have hlk : ¬ ((k : Int) < (n : Int)) := by omega
        clear O hc3
        go_wp2_with fail
        refine (setP _ _ A3 _ c3 hlen P3).mono ?_
        rintro e w2 ⟨v4, rfl, S4, b4⟩
        go_wp2
        go_ret
        exact ⟨v4, rfl, own_base S4 (by omega), (B0.out.trans (B.out.mono (Nat.le_succ _))).trans (b4.mono (by omega))⟩)
end Go.Proofs.YtdafiipedlglpaaGreatDoor
