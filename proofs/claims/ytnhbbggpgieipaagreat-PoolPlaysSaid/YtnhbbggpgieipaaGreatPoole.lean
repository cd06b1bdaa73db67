/- All that wait in a pool: walked. -/
import Derived.Test.YtnhbbggpgieipaaGreatPools
namespace Go.Proofs.YtnhbbggpgieipaaGreat
open Go.RowKit

set_option maxRecDepth 100000 in
set_option maxHeartbeats 2000000 in
theorem allPl_any {w : World} {F : Nat → Prop} {g : Nat} {room : Int} {L : List PatV} (hP : PoolAt w F g room L) : Calls Tryz.prog 20 #[.pointer (some ⟨g, 0, none⟩)] w (RetC w L) := by
  have HI := Lib.hid (ids_any hP)
  have HP := Lib.hid hP
  have hfew := hP.few
  clear hP
  go_enter Tryz.func20, Tryz.ntmps20
  go_wp2_with fail
  refine HI.out.mono ?_
  rintro e w2 ⟨v, rfl, o1, b1⟩
  obtain ⟨A, c, rfl, _, ps⟩ := PidsAt.of_own o1 (by simp [idsV])
  have PS := Lib.hid ps
  have B1 := Lib.hid b1
  have HP := Lib.hid (HP.out.ext b1)
  clear o1 b1 ps HI
  have BS := Lib.hid (Below.refl w2.heap.size w2)
  go_wp2_with fail
  go_loopw [9, 3] (fun i s wr => ∃ k : Nat, k ≤ L.length ∧ i = .int .i64 k ∧ Hid (OwnC w2.heap.size wr s (L.take k)) ∧ Hid (Below w2.heap.size w2 wr)) (fun i _ _ => L.length - (intOf i).toNat)
  case atStart => exact ⟨0, by omega, rfl, OwnC.nil _ _, BS.out⟩
  case round =>
    clear BS
    obtain ⟨k, hk, rfl, O, B⟩ := hrel
    have hk0 : (0 : Int) ≤ (k : Int) := by omega
    by_cases hlt : k < L.length
    · have hlk : (k : Int) < (L.length : Int) := by omega
      obtain ⟨b, o, x, rfl, hb, hx, R⟩ := PS.out.at_ hlt
      have hp0 : L[k]? = some L[k] := List.getElem?_eq_getElem hlt
      generalize L[k] = p at hp0
      obtain rfl : x = p.1 := by
        rw [idsV, List.getElem?_map, hp0] at hx; exact (Option.some.inj hx).symm
      have R := Lib.hid (rangeAt_below R B.out hb)
      have M3 : Hid (Below wr.heap.size wr ((wr.alloc (.cells #[.int .u8 0, .int .u16 0] 33)).setRow wr.heap.size (encP p.1).toArray)) := below_setRow ((Below.refl _ _).alloc (Nat.le_refl _) _) (Nat.le_refl _) _
      have K4 : Hid (Blk ((wr.alloc (.cells #[.int .u8 0, .int .u16 0] 33)).setRow wr.heap.size (encP p.1).toArray) wr.heap.size 33 (encP p.1).toArray) := (Blk.new _ _ _).row _
      have i1 : (Tryz.prog.info? 33).map (·.size) = some (encP p.1).toArray.size := infoPid
      have i2 : (encP p.1).toArray.all (·.oneCell') = true := by simp [encP, Value.oneCell']
      have N : Hid (L.take (k + 1) = L.take k ++ [p]) := by rw [Hid, List.take_add_one, hp0]; rfl
      have B4 := Lib.hid (B.out.trans (M3.out.mono B.out.size))
      have O4 := Lib.hid (O.out.ext M3.out)
      have HP4 := Lib.hid (HP.out.ext B4.out)
      have GL := Lib.hid (patB_len (HP.out.good p (List.mem_of_getElem? hp0)))
      have RX := Lib.hid (K4.out.range)
      have hmem := Lib.hid (List.mem_of_getElem? hp0)
      clear hx hp0 O B M3 K4
      go_upto_region 5 with (first
        | (refine wpList_load_mid rfl 33 _ (by rfl) b (o + k * 2) (by rfl) _ _ R.out underPid rfl infoPid ?_)
        | (refine wpList_alloced (allocPI _) ?_)
        | (refine wpList_store_row rfl 33 _ _ (by rfl) wr.heap.size (encP p.1).toArray (by rfl) (by rfl) _ _ (Blk.new _ _ _) i1 rfl i2 ?_))
      generalize hW : ((wr.alloc (.cells #[.int .u8 0, .int .u16 0] 33)).setRow wr.heap.size (encP p.1).toArray) = w4 at *
      generalize wr.heap.size = gx at *
      clear hW i1 i2 R
      obtain ⟨gm, r, kb, hgm, pin, hl⟩ := HP4.out.look hmem.out
      have y1 : w4.cell? ⟨g, 1, none⟩ = some (.map (some gm)) := kb.cell 1
      have HL : Hid (∀ w', (∃ n, w' = w4.drewN n) → (Instr.lookup 79 (.map (some gm)) (.agg (encP p.1).toArray) false).run Tryz.prog w' = .ok (.agg r.toArray) w') := by
        rintro _ ⟨n, rfl⟩; exact hl _ rfl
      have PIN := Lib.hid pin
      clear hl pin kb
      refine wp_region_move_drawn (v := u3) 7 (by kernel_rfl) (by kernel_rfl) (fun _ _ _ h => h) rfl ?_
      simp only [Nat.reduceSub, List.take_succ_cons, List.take_zero, List.drop_succ_cons, List.drop_zero, Act.put, List.setIfInBounds_toArray, List.set_cons_zero, List.set_cons_succ]
      repeat (first
        | (refine wpQuiet_load_mid (rangeAt_drewN1 RX.out) underPid rfl infoPid rfl rfl ?_; simp only [List.set_cons_succ, List.set_cons_zero])
        | (refine wpQuiet_look HL.out rfl rfl rfl ?_; simp only [List.set_cons_succ, List.set_cons_zero])
        | go_big_quiet_step (fail))
      refine wpQuiet_nil ?_
      rintro _ ⟨nq, rfl⟩
      have D4 := below_drewN (Below.refl w4.heap.size w4) nq
      have B5 := Lib.hid (B4.out.trans (D4.mono B4.out.size))
      have O5 := Lib.hid (O4.out.ext D4)
      have PA5 := Lib.hid (PIN.out.ext D4)
      clear D4 B4 O4 PIN HL RX y1 hmem HP4
      generalize w4.drewN nq = w5 at *
      have hOB5 : Hid (w2.heap.size ≤ w5.heap.size) := B5.out.size
      have HC := Lib.hid (copy18_any p w5 _ PA5.out.at_ (by have := GL.out.1; omega) (by have := GL.out.2; omega))
      go_wp2_with fail
      refine HC.out.mono ?_
      rintro e w6 ⟨A3, c3, A4, c4, rfl, o1, o2, b4⟩
      have PN := Lib.hid (PatIn.of_copy o1 o2 PA5.out.at_.oks PA5.out.len1 PA5.out.len2)
      have O6 := O5.out.ext b4
      have B6 := Lib.hid (B5.out.trans (b4.mono B5.out.size))
      have hOB6 : Hid (w2.heap.size ≤ w6.heap.size) := Nat.le_trans hOB5.out b4.size
      obtain ⟨rows, D, own, RI, HD⟩ := O6
      have hsl : Hid (∀ k, u3.ownBlock = some k → k < w5.heap.size) := fun k e => by
        obtain ⟨_, _, ow, _⟩ := O5.out
        exact (ow.lt k e).2
      have own := Lib.hid own
      have RI := Lib.hid RI
      have HD := Lib.hid HD
      have hle : Hid ((L.take k).length ≤ 32) := by rw [Hid, List.length_take]; omega
      clear o1 o2 b4 HC O5 B5
      go_wp2_with (first
        | (refine wpList_lit1 patSl PN.out.len4 (by omega) (by rfl) ?_)
        | (at_builtin; refine wpList_pushF patSl own.out (patC p.1 A3 p.2.1.length c3 A4 p.2.2.length c4) PN.out.len4 PN.out.one hOB6.out (by have := hle.out; omega) (by have := hle.out; unfold maxLen; omega) (by rfl) (by rfl) (by rfl) ?_; intro v5 w7 own5 kep5 new5))
      have O7 := Lib.hid (OwnC.push own5 kep5 new5 RI.out HD.out PN.out hOB5.out hsl.out)
      rw [← N.out] at O7
      have B7 := Lib.hid (B6.out.trans ((kep5.below (B := w2.heap.size) (fun k e => (own.out.lt k e).1) B6.out.size)))
      clear own5 kep5 new5
      go_roundw
      case rel => exact ⟨k + 1, by omega, by go_num, O7.out, B7.out⟩
      case measure => simp [intOf]; omega
    · have hlk : ¬ ((k : Int) < (L.length : Int)) := by omega
      have e : Hid (L.take k = L) := List.take_of_length_le (by omega)
      rw [e.out] at O
      have O8 := Lib.hid (O.out.mono B1.out.size)
      have B8 := Lib.hid (B1.out.trans (B.out.mono B1.out.size))
      clear O B
      go_wp2
      go_ret
      exact ⟨_, rfl, O8.out, B8.out⟩
end Go.Proofs.YtnhbbggpgieipaaGreat
