/- Whether the vertices that an operation names are of the kinds that it takes: walked. -/
import Derived.Test.YtihggkmjalofiaaGreatDoorKinds
import Derived.Deep.DeepCutAuto
namespace Go.Proofs.YtihggkmjalofiaaGreatDoor
open Go.RowKit

theorem allocVd (w : World) : (Instr.alloc 120 true (.tuple #[])).run Tryz.prog w = .ok (.pointer (some ⟨w.heap.size, 0, none⟩)) (w.alloc (.cells #[.int .u8 0, .int .u16 0, .int .u8 0] 120)) := by kernel_rfl
theorem allV_snoc {vs : List VidV} {f : VidV → Bool} {k : Nat} {x : VidV} (h : vs[k]? = some x) (hk : (vs.take k).all f = true) (hx : f x = true) : (vs.take (k + 1)).all f = true := by
  rw [take_snoc' h, List.all_append, hk]; simp [hx]
theorem allV_false {vs : List VidV} {f : VidV → Bool} {k : Nat} {x : VidV} (h : vs[k]? = some x) (hx : f x = false) : vs.all f = false := by
  rw [List.all_eq_false]; exact ⟨x, List.mem_of_getElem? h, by simp [hx]⟩
theorem underPat : Tryz.prog.underlying 31 = some (.struct (Tryz.prog.fieldsOf 31)) := by kernel_rfl
theorem u8_in (v : Fin 256) : 0 ≤ ((v.val : Nat) : Int) ∧ ((v.val : Nat) : Int) < 256 := ⟨by omega, by have := v.isLt; omega⟩
set_option maxRecDepth 100000 in
set_option maxHeartbeats 4000000 in
theorem suits_any (p : PatV) (o : OpV) (w : World) (cs : List Value) (hp : PatAt w cs p) (hr : ∀ v ∈ refsO o, v.1 = p.1 → v.2.val < p.2.2.length) :
    Calls Tryz.prog 185 #[.agg cs.toArray, .agg (encO o).toArray] w (RetB w (.bool (suitsV p o))) := by
  have HPAT := Lib.hid hp
  have HR := Lib.hid hr
  obtain ⟨⟨A, c, A', c', rfl, P1, O1⟩, m1, m2⟩ := hp
  have K1 : Hid (Blk ((w.alloc (.cells (patC p.1 A p.2.1.length c A' p.2.2.length c').toArray 31)).alloc (.cells (encO o).toArray 122)) w.heap.size 31 (patC p.1 A p.2.1.length c A' p.2.2.length c').toArray) := (Blk.new _ _ _).alloc _
  have K2 : Hid (Blk ((w.alloc (.cells (patC p.1 A p.2.1.length c A' p.2.2.length c').toArray 31)).alloc (.cells (encO o).toArray 122)) (w.heap.size + 1) 122 (encO o).toArray) := Blk.newAt (by simp) _ _
  have B0 : Hid (Below w.heap.size w ((w.alloc (.cells (patC p.1 A p.2.1.length c A' p.2.2.length c').toArray 31)).alloc (.cells (encO o).toArray 122))) := ((Below.refl _ _).alloc (Nat.le_refl _) _).alloc (by simp) _
  clear hr P1
  go_enter Tryz.func185, Tryz.ntmps185
  go_upto_region 1 with fail
  generalize ((w.alloc (.cells (patC p.1 A p.2.1.length c A' p.2.2.length c').toArray 31)).alloc (.cells (encO o).toArray 122)) = w2 at *
  have PA := Lib.hid (HPAT.out.ext B0.out)
  have O1 := Lib.hid (O1.ext B0.out)
  have b0 : w2.cell? ⟨w.heap.size + 1, 0, none⟩ = some (.int .u8 ((o.1.val : Nat) : Int)) := K2.out.cell 0
  have HK : Hid ((((o.1.val : Nat) : Int) == 4) = decide (o.1.val = 4)) := by
    by_cases h : o.1.val = 4
    · rw [decide_eq_true h, h]; rfl
    · rw [decide_eq_false h]; exact beq_eq_false_iff_ne.2 (by omega)
  have HW : Hid (wantN o = if o.1.val = 4 then 3 else 1) := rfl
  clear HPAT
  generalize hg1 : w.heap.size = g1 at K1 ⊢
  generalize hg2 : g1 + 1 = g2 at *
  rw [hg1, hg2] at K2 b0
  go_upto_if 12 with fail
  go_cut [5] (fun s5 wx => s5 = .int .u8 ((wantN o : Nat) : Int) ∧ wx = w2)
  case first =>
    by_cases c4 : o.1.val = 4
    · have d4 := HK.out
      rw [decide_eq_true c4] at d4
      rw [if_pos c4] at HW
      clear HK c4
      go_wp2_with fail
      go_meet
      case rel => exact ⟨by rw [HW.out]; rfl, rfl⟩
    · have d4 := HK.out
      rw [decide_eq_false c4] at d4
      rw [if_neg c4] at HW
      clear HK c4
      go_wp2_with fail
      go_meet
      case rel => exact ⟨by rw [HW.out]; rfl, rfl⟩
  case rest =>
    obtain ⟨rfl, rfl⟩ := hcut
    obtain ⟨wn, hwn⟩ : ∃ wn, wantN o = wn := ⟨_, rfl⟩
    rw [hwn]
    have HWN := Lib.hid hwn
    clear hwn
    go_wp2_with (refine wpList_load_row rfl 122 _ (by rfl) g2 (by rfl) _ _ _ _ K2.out underOp rfl infoOp ?_)
    refine (refsN o _).mono ?_
    rintro e w3 ⟨A3, c3, rfl, hc3, V, b3⟩
    have V := Lib.hid V
    have K1 := Lib.hid (K1.out.ext b3)
    have K2 := Lib.hid (K2.out.ext b3)
    have PA := Lib.hid (PA.out.ext b3)
    have O1 := Lib.hid (O1.out.ext b3)
    have B3 := Lib.hid (B0.out.trans (b3.mono B0.out.size))
    have hrl := refsO_le o
    have F : Hid (suitsV p o = ((refsO o).all (fitV p o) && (!bothOwn p o || sameAt p o))) := rfl
    clear b3 B0 b0 HW
    generalize hvs : refsO o = vs at *
    have hvs := Lib.hid hvs
    go_wp2_with fail
    go_loopw [16] (fun i wr => ∃ k : Nat, k ≤ vs.length ∧ i = .int .i64 k ∧ Hid ((vs.take k).all (fitV p o) = true) ∧ Hid (Below w3.heap.size w3 wr)) (fun i _ => vs.length - (intOf i).toNat)
    case atStart => exact ⟨0, by omega, rfl, rfl, Below.refl _ _⟩
    case round =>
      obtain ⟨k, hk, rfl, T, B⟩ := hrel
      have hk0 : (0 : Int) ≤ (k : Int) := by omega
      by_cases hlt : k < vs.length
      · have hlk : (k : Int) < (vs.length : Int) := by omega
        obtain ⟨b, off, y, rfl, hb, hy, R0⟩ := V.out.at_ hlt
        have R0 := Lib.hid (rangeAt_below R0 B.out hb)
        have HS2 : Hid ((Tryz.prog.info? 120).map (·.size) = some (encV y).toArray.size) := infoVid
        have K4 : Hid (Blk ((wr.alloc (.cells #[.int .u8 0, .int .u16 0, .int .u8 0] 120)).setRow wr.heap.size (encV y).toArray) wr.heap.size 120 (encV y).toArray) := (Blk.new _ _ _).row _
        have B4 : Hid (Below wr.heap.size wr ((wr.alloc (.cells #[.int .u8 0, .int .u16 0, .int .u8 0] 120)).setRow wr.heap.size (encV y).toArray)) := below_setRow ((Below.refl _ _).alloc (Nat.le_refl _) _) (Nat.le_refl _) _
        have N1 := Lib.hid (allV_snoc (f := fitV p o) hy T.out)
        have N2 := Lib.hid (allV_false (f := fitV p o) hy)
        clear hy
        go_upto_region 7 with (first
          | (refine wpList_load_mid rfl 120 _ (by rfl) b (off + k * 3) (by rfl) _ _ R0.out underVid rfl infoVid ?_)
          | (refine wpList_alloced (allocVd _) ?_)
          | (refine wpList_store_row rfl 120 _ _ (by rfl) wr.heap.size (encV y).toArray (by rfl) (by rfl) _ _ (Blk.new _ _ _) HS2.out rfl (all_oneCell_toArray (encV_one y)) ?_))
        generalize ((wr.alloc (.cells #[.int .u8 0, .int .u16 0, .int .u8 0] 120)).setRow wr.heap.size (encV y).toArray) = w4 at *
        have K5 := Lib.hid ((K1.out.ext B.out).ext B4.out)
        have HC := Lib.hid (kind_any p y w4 _ ((PA.out.ext B.out).ext B4.out))
        have B6 := Lib.hid (B.out.trans (B4.out.mono B.out.size))
        have hz4 := Lib.hid B6.out.size
        clear B4
        have F1 : Hid (fitV p o y = !((kindV p y).2 && decide ((kindV p y).1 ≠ wn))) := by rw [Hid, ← HWN.out]; rfl
        generalize kindV p y = kv at *
        generalize wr.heap.size = gv at *
        clear R0 B
        obtain ⟨k1, b2⟩ := kv
        cases b2
        · have N := Lib.hid (N1.out (by rw [F1.out]; rfl))
          clear N1 N2 F1
          go_wp2_with (first
            | (refine wpList_load_row rfl 31 _ (by rfl) g1 (by rfl) _ _ _ _ K5.out underPat rfl infoPat ?_)
            | (refine wpList_load_row rfl 120 _ (by rfl) gv (by rfl) _ _ _ _ K4.out underVid rfl infoVid ?_))
          refine HC.out.mono ?_
          rintro e w5 ⟨rfl, b5⟩
          have B5 := Lib.hid (B6.out.trans (b5.mono hz4.out))
          clear b5 HC B6 K4 K5
          go_wp2_with fail
          go_roundw
          case rel => exact ⟨k + 1, by omega, by go_num, N.out, B5.out⟩
          case measure => simp [intOf]; omega
        · by_cases e : k1 = wn
          · have N := Lib.hid (N1.out (by rw [F1.out, e]; simp))
            have d : ((k1 : Int) != (wn : Int)) = false := by rw [e]; simp
            clear N1 N2 F1 e
            go_wp2_with (first
              | (refine wpList_load_row rfl 31 _ (by rfl) g1 (by rfl) _ _ _ _ K5.out underPat rfl infoPat ?_)
              | (refine wpList_load_row rfl 120 _ (by rfl) gv (by rfl) _ _ _ _ K4.out underVid rfl infoVid ?_))
            refine HC.out.mono ?_
            rintro e w5 ⟨rfl, b5⟩
            have B5 := Lib.hid (B6.out.trans (b5.mono hz4.out))
            clear b5 HC B6 K4 K5
            go_wp2_with fail
            go_roundw
            case rel => exact ⟨k + 1, by omega, by go_num, N.out, B5.out⟩
            case measure => simp [intOf]; omega
          · have N := Lib.hid (N2.out (by rw [F1.out]; simp [e]))
            have d : ((k1 : Int) != (wn : Int)) = true := by rw [bne_iff_ne]; omega
            clear N1 N2 F1 e
            go_wp2_with (first
              | (refine wpList_load_row rfl 31 _ (by rfl) g1 (by rfl) _ _ _ _ K5.out underPat rfl infoPat ?_)
              | (refine wpList_load_row rfl 120 _ (by rfl) gv (by rfl) _ _ _ _ K4.out underVid rfl infoVid ?_))
            refine HC.out.mono ?_
            rintro e w5 ⟨rfl, b5⟩
            have B5 := Lib.hid (B6.out.trans (b5.mono hz4.out))
            clear b5 HC B6 K4 K5
            go_wp2_with fail
            go_ret
            exact ⟨ret_bool (by rw [F.out, N.out]; rfl), B3.out.trans (B5.out.mono B3.out.size)⟩
      · rw [List.take_of_length_le (by omega)] at T
        have F : Hid ((!bothOwn p o || sameAt p o) = suitsV p o) := by rw [Hid, F.out, T.out]; rfl
        have hlk : ¬ ((k : Int) < (vs.length : Int)) := by omega
        have K1 := Lib.hid (K1.out.ext B.out)
        have K2 := Lib.hid (K2.out.ext B.out)
        have O1 := Lib.hid (O1.out.ext B.out)
        have B3 := Lib.hid (B3.out.trans (B.out.mono B3.out.size))
        have a0 : wr.cell? ⟨g1, 0, none⟩ = some (.int .u8 ((p.1.1.val : Nat) : Int)) := K1.out.cell 0
        have a1 : wr.cell? ⟨g1, 1, none⟩ = some (.int .u16 ((p.1.2.val : Nat) : Int)) := K1.out.cell 1
        have a3 : wr.cell? ⟨g1, 3, none⟩ = some (.slice A' p.2.2.length c') := K1.out.cell 3
        have b0 : wr.cell? ⟨g2, 0, none⟩ = some (.int .u8 ((o.1.val : Nat) : Int)) := K2.out.cell 0
        have b1 : wr.cell? ⟨g2, 1, none⟩ = some (.int .u8 ((o.2.1.1.1.val : Nat) : Int)) := K2.out.cell 1
        have b2 : wr.cell? ⟨g2, 2, none⟩ = some (.int .u16 ((o.2.1.1.2.val : Nat) : Int)) := K2.out.cell 2
        have b3 : wr.cell? ⟨g2, 3, none⟩ = some (.int .u8 ((o.2.1.2.val : Nat) : Int)) := K2.out.cell 3
        have b4 : wr.cell? ⟨g2, 4, none⟩ = some (.int .u8 ((o.2.2.1.1.1.val : Nat) : Int)) := K2.out.cell 4
        have b5 : wr.cell? ⟨g2, 5, none⟩ = some (.int .u16 ((o.2.2.1.1.2.val : Nat) : Int)) := K2.out.cell 5
        have b6 : wr.cell? ⟨g2, 6, none⟩ = some (.int .u8 ((o.2.2.1.2.val : Nat) : Int)) := K2.out.cell 6
        clear K1 K2 B V PA T
        by_cases c4 : o.1.val = 4
        · have d4 := HK.out
          rw [decide_eq_true c4] at d4
          have E1 := fun u => eqlP o.2.1.1 p.1 u
          have E2 := fun u => eqlP o.2.2.1.1 p.1 u
          by_cases e1 : o.2.1.1 = p.1
          · have E1' : ∀ u : World, (binOp .eql 27 (.agg #[.int .u8 ((o.2.1.1.1.val : Nat) : Int), .int .u16 ((o.2.1.1.2.val : Nat) : Int)]) (.agg #[.int .u8 ((p.1.1.val : Nat) : Int), .int .u16 ((p.1.2.val : Nat) : Int)])).run Tryz.prog u = .ok (.bool true) u := fun u => (E1 u).trans (by rw [decide_eq_true e1])
            by_cases e2 : o.2.2.1.1 = p.1
            · have E2' : ∀ u : World, (binOp .eql 27 (.agg #[.int .u8 ((o.2.2.1.1.1.val : Nat) : Int), .int .u16 ((o.2.2.1.1.2.val : Nat) : Int)]) (.agg #[.int .u8 ((p.1.1.val : Nat) : Int), .int .u16 ((p.1.2.val : Nat) : Int)])).run Tryz.prog u = .ok (.bool true) u := fun u => (E2 u).trans (by rw [decide_eq_true e2])
              have hv4 : refsO o = [o.2.1, o.2.2.1] := by unfold refsO; rw [if_neg (by omega), if_pos c4]
              have l1 := HR.out o.2.1 (by rw [← hvs.out, hv4]; simp) e1
              have l2 := HR.out o.2.2.1 (by rw [← hvs.out, hv4]; simp) e2
              obtain ⟨bb, oo, x1, rfl, hbb, hx1, R1, _⟩ := O1.out.at_ l1
              obtain ⟨b', o', x2, hA, hbb2, hx2, R2, _⟩ := O1.out.at_ l2
              injection hA with hA
              injection hA with hA1 hA2 _
              subst hA1 hA2
              have F : Hid (decide (x1.2.1 = x2.2.1) = suitsV p o) := by
                rw [Hid, ← F.out]
                unfold bothOwn sameAt atOf
                rw [decide_eq_true c4, decide_eq_true e1, decide_eq_true e2, hx1, hx2]
                simp
              have EV := fun u => eqlV x1.2.1 x2.2.1 u
              have s1 : wr.cell? ⟨bb, oo + o.2.1.2.val * 8 + 1, none⟩ = some (.int .u8 ((x1.2.1.1.1.val : Nat) : Int)) := R1 1 _ rfl
              have s2 : wr.cell? ⟨bb, oo + o.2.1.2.val * 8 + 2, none⟩ = some (.int .u16 ((x1.2.1.1.2.val : Nat) : Int)) := R1 2 _ rfl
              have s3 : wr.cell? ⟨bb, oo + o.2.1.2.val * 8 + 3, none⟩ = some (.int .u8 ((x1.2.1.2.val : Nat) : Int)) := R1 3 _ rfl
              have t1 : wr.cell? ⟨bb, oo + o.2.2.1.2.val * 8 + 1, none⟩ = some (.int .u8 ((x2.2.1.1.1.val : Nat) : Int)) := R2 1 _ rfl
              have t2 : wr.cell? ⟨bb, oo + o.2.2.1.2.val * 8 + 2, none⟩ = some (.int .u16 ((x2.2.1.1.2.val : Nat) : Int)) := R2 2 _ rfl
              have t3 : wr.cell? ⟨bb, oo + o.2.2.1.2.val * 8 + 3, none⟩ = some (.int .u8 ((x2.2.1.2.val : Nat) : Int)) := R2 3 _ rfl
              have EV' : ∀ u : World, (binOp .eql 120 (.agg #[.int .u8 ((x1.2.1.1.1.val : Nat) : Int), .int .u16 ((x1.2.1.1.2.val : Nat) : Int), .int .u8 ((x1.2.1.2.val : Nat) : Int)]) (.agg #[.int .u8 ((x2.2.1.1.1.val : Nat) : Int), .int .u16 ((x2.2.1.1.2.val : Nat) : Int), .int .u8 ((x2.2.1.2.val : Nat) : Int)])).run Tryz.prog u = .ok (.bool (decide (x1.2.1 = x2.2.1))) u := EV
              have i1 : ((o.2.1.2.val : Nat) : Int) < (p.2.2.length : Int) := by omega
              have i2 : ((o.2.2.1.2.val : Nat) : Int) < (p.2.2.length : Int) := by omega
              have i3 : 0 ≤ ((o.2.1.2.val : Nat) : Int) := by omega
              have i4 : 0 ≤ ((o.2.2.1.2.val : Nat) : Int) := by omega
              clear HK c4 E1 E2 e1 e2 hv4 hvs HR O1 hx1 hx2 EV R1 R2 l1 l2
              generalize decide (x1.2.1 = x2.2.1) = res at *
              go_wp2
              go_quiet (fail)
              go_wp2
              go_ret
              exact ⟨ret_bool F.out, below_drewN B3.out _⟩
            · have E2' : ∀ u : World, (binOp .eql 27 (.agg #[.int .u8 ((o.2.2.1.1.1.val : Nat) : Int), .int .u16 ((o.2.2.1.1.2.val : Nat) : Int)]) (.agg #[.int .u8 ((p.1.1.val : Nat) : Int), .int .u16 ((p.1.2.val : Nat) : Int)])).run Tryz.prog u = .ok (.bool false) u := fun u => (E2 u).trans (by rw [decide_eq_false e2])
              have F : Hid (true = suitsV p o) := by rw [Hid, ← F.out]; unfold bothOwn; rw [decide_eq_false e2]; simp
              clear HK c4 E1 E2 e1 e2
              go_wp2
              go_ret
              exact ⟨ret_bool F.out, B3.out⟩
          · have E1' : ∀ u : World, (binOp .eql 27 (.agg #[.int .u8 ((o.2.1.1.1.val : Nat) : Int), .int .u16 ((o.2.1.1.2.val : Nat) : Int)]) (.agg #[.int .u8 ((p.1.1.val : Nat) : Int), .int .u16 ((p.1.2.val : Nat) : Int)])).run Tryz.prog u = .ok (.bool false) u := fun u => (E1 u).trans (by rw [decide_eq_false e1])
            have F : Hid (true = suitsV p o) := by rw [Hid, ← F.out]; unfold bothOwn; rw [decide_eq_false e1]; simp
            clear HK c4 E1 E2 e1
            go_wp2
            go_ret
            exact ⟨ret_bool F.out, B3.out⟩
        · have d4 := HK.out
          rw [decide_eq_false c4] at d4
          have F : Hid (true = suitsV p o) := by rw [Hid, ← F.out]; unfold bothOwn; rw [decide_eq_false c4]; simp
          clear HK c4
          go_wp2
          go_ret
          exact ⟨ret_bool F.out, B3.out⟩
end Go.Proofs.YtihggkmjalofiaaGreatDoor
