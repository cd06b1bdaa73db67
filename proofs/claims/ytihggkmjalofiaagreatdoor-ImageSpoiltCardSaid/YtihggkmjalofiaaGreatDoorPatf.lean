/- Which patches come ahead: the program's, walked. -/
import Derived.Test.YtihggkmjalofiaaGreatDoorOps
namespace Go.Proofs.YtihggkmjalofiaaGreatDoor
open Go.RowKit

abbrev zeroO : Array Value := #[.int .u8 0, .int .u8 0, .int .u16 0, .int .u8 0, .int .u8 0, .int .u16 0, .int .u8 0, .string ByteArray.empty]
theorem allocO (w : World) : (Instr.alloc 122 true (.tuple #[])).run Tryz.prog w = .ok (.pointer (some ⟨w.heap.size, 0, none⟩)) (w.alloc (.cells zeroO 122)) := by kernel_rfl
theorem allocV' (w : World) : (Instr.alloc 120 true (.tuple #[])).run Tryz.prog w = .ok (.pointer (some ⟨w.heap.size, 0, none⟩)) (w.alloc (.cells #[.int .u8 0, .int .u16 0, .int .u8 0] 120)) := by kernel_rfl
set_option maxRecDepth 100000 in
set_option maxHeartbeats 8000000 in
theorem depsP (id : PidV) (l : List OpV) (w : World) (A : Option Addr) (n c : Nat) (hm : n ≤ 300) (h : OpsAt w A n l) :
    Calls Tryz.prog 182 #[.agg (encP id).toArray, .slice A n c] w (OwnedRet w 27 2 (depsV id l).length ((depsV id l).flatMap encP)) := by
  have L := Lib.hid h
  clear h
  have i1 : 0 ≤ ((id.2.val : Nat) : Int) := by omega
  have i2 : ((id.2.val : Nat) : Int) < 65536 := by have := id.2.isLt; omega
  have i3 : 0 ≤ ((id.1.val : Nat) : Int) := by omega
  have i4 : ((id.1.val : Nat) : Int) < 256 := by have := id.1.isLt; omega
  have K : Hid (Blk (w.alloc (.cells (encP id).toArray 27)) w.heap.size 27 (encP id).toArray) := Blk.new _ _ _
  have B0 : Hid (Below w.heap.size w (w.alloc (.cells (encP id).toArray 27))) := below_new _ _
  have hz : (w.alloc (.cells (encP id).toArray 27)).heap.size = w.heap.size + 1 := by go_size
  have p0 : (w.alloc (.cells (encP id).toArray 27)).cell? ⟨w.heap.size, 0, none⟩ = some (.int .u8 ((id.1.val : Nat) : Int)) := K.out.cell 0
  have p1 : (w.alloc (.cells (encP id).toArray 27)).cell? ⟨w.heap.size, 1, none⟩ = some (.int .u16 ((id.2.val : Nat) : Int)) := K.out.cell 1
  have R1 : Hid ((w.alloc (.cells (encP id).toArray 27)).rangeAt w.heap.size 0 (encP id)) := blk_sub K.out fun j v hv => by simpa using hv
  have L1 := Lib.hid (L.out.ext B0.out)
  clear L K
  have hf := firstDep_cases id
  generalize ((id.2.val : Nat) : Int) = s at p1 i1 i2 hf
  generalize ((id.1.val : Nat) : Int) = u at p0 i3 i4 hf
  go_enter Tryz.func182, Tryz.ntmps182
  rcases hf with ⟨h1, hfd⟩ | ⟨h1, first, hfd, hfe⟩
  case' inl => (
    go_upto_region 4 with fail
    have O1 : Hid ((w.alloc (.cells (encP id).toArray 27)).ownsRow (w.heap.size + 1) 27 2 (.slice none 0 0) (rawDeps id (l.take 0)).length ((rawDeps id (l.take 0)).flatMap encP)) := by
      rw [Hid, raw_nil, hfd]; exact World.ownsRow_nil _ _ _ _
    have B1 := Lib.hid (Below.refl (w.heap.size + 1) (w.alloc (.cells (encP id).toArray 27))))
  case' inr => (
    go_upto_region 4 with (first | (refine wpList_lit1 pidSl (encP_len first) (by omega) (by rw [hfe.out]; rfl) ?_) | (at_builtin; refine wpList_push pidSl (base := w.heap.size + 1) (World.ownsRow_nil _ _ _ _) (encP first) rfl (encP_one first) (by rw [hz]; exact Nat.le_refl _) (by decide) (by decide) (by rfl) (by rfl) (by rfl) ?_; intro v1 w1 own1 bel1))
    have O1 : Hid (w1.ownsRow (w.heap.size + 1) 27 2 v1 (rawDeps id (l.take 0)).length ((rawDeps id (l.take 0)).flatMap encP)) := by
      rw [Hid, raw_nil, hfd]; simpa using own1
    have B1 := Lib.hid bel1
    clear own1 bel1 hfe)
  all_goals (
    clear hfd h1 p0 p1 i1 i2 i3 i4
    go_wp2_with fail
    go_loopw [5, 24] (fun v i wr => ∃ (k : Nat), k ≤ n ∧ i = .int .i64 k ∧ Hid (wr.ownsRow (w.heap.size + 1) 27 2 v (rawDeps id (l.take k)).length ((rawDeps id (l.take k)).flatMap encP)) ∧ Hid (Below (w.heap.size + 1) (w.alloc (.cells (encP id).toArray 27)) wr)) (fun _ i _ => n - (intOf i).toNat)
    case atStart => exact ⟨0, by omega, rfl, O1, B1⟩
    case round =>
      clear O1 B1
      obtain ⟨k, hk, rfl, O, B⟩ := hrel
      have hk0 : (0 : Int) ≤ (k : Int) := by omega
      have hws : w.heap.size + 1 ≤ wr.heap.size := by have := B.out.size; rw [hz] at this; exact this
      by_cases hlt : k < n
      · obtain ⟨b, o, x, rfl, hb, hx, R0, hok⟩ := L1.out.at_ hlt
        rw [hz] at hb
        have R0 := Lib.hid (rangeAt_below R0 B.out hb)
        have hlk : (k : Int) < (n : Int) := by omega
        have S := Lib.hid (raw_snoc (id := id) hx)
        clear hx hok
        have K1 : Hid (((wr.alloc (.cells zeroO 122)).setRow wr.heap.size (encO x).toArray).rangeAt wr.heap.size 0 (encO x)) := blk_sub ((Blk.new _ _ _).row _) fun j v hv => by simpa using hv
        have b1 : Hid (Below wr.heap.size wr ((wr.alloc (.cells zeroO 122)).setRow wr.heap.size (encO x).toArray)) := below_setRow ((Below.refl _ _).alloc (Nat.le_refl _) _) (Nat.le_refl _) _
        go_upto_region 7 with (first
          | (refine wpList_load_mid rfl 122 _ (by rfl) _ _ (by rfl) _ _ R0.out underOp rfl infoOp ?_)
          | (refine wpList_alloced (allocO _) ?_)
          | (refine wpList_store_row rfl 122 _ _ (by rfl) wr.heap.size (encO x).toArray (by rfl) (by rfl) _ _ (Blk.new _ _ _) infoOp rfl (all_oneCell_toArray (encO_one x)) ?_))
        generalize hw1 : ((wr.alloc (.cells zeroO 122)).setRow wr.heap.size (encO x).toArray) = w1 at *
        clear hw1
        go_wp2_with (refine wpList_load_mid rfl 122 _ rfl _ _ (by rfl) _ _ K1.out underOp rfl infoOp ?_)
        refine (refsW x _).mono ?_
        rintro e w2 ⟨v2, rfl, V2, b2⟩
        have hws1 : w.heap.size + 1 ≤ w1.heap.size := Nat.le_trans hws b1.out.size
        have O2 := Lib.hid (own_ext (own_ext O.out b1.out) b2)
        have B2 := Lib.hid ((B.out.trans (b1.out.mono hws)).trans (b2.mono hws1))
        clear K1 b1 hws1
        have V2 := Lib.hid (own_base V2 (Nat.zero_le _))
        clear b2 O R0
        obtain ⟨A2, c2, rfl, hc2, _⟩ := Sl.of_own V2.out
        go_wp2_with fail
        have e0 : rawDeps id (l.take k) ++ partDeps id ((refsO x).take 0) = rawDeps id (l.take k) := by simp [partDeps]
        go_loopw [5, 31] (fun v i wr => ∃ (j : Nat), j ≤ (refsO x).length ∧ i = .int .i64 j ∧ Hid (wr.ownsRow (w.heap.size + 1) 27 2 v (rawDeps id (l.take k) ++ partDeps id ((refsO x).take j)).length ((rawDeps id (l.take k) ++ partDeps id ((refsO x).take j)).flatMap encP)) ∧ Hid (Below (w.heap.size + 1) (w.alloc (.cells (encP id).toArray 27)) wr) ∧ Hid (wr.ownsRow 0 120 3 (.slice A2 (refsO x).length c2) (refsO x).length ((refsO x).flatMap encV))) (fun _ i _ => (refsO x).length - (intOf i).toNat)
        case atStart => exact ⟨0, by omega, rfl, by rw [Hid, e0]; exact O2.out, B2, V2⟩
        case round =>
          clear O2 B2 V2 e0
          obtain ⟨j, hj, rfl, O3, B3, V3⟩ := hrel
          have hj0 : (0 : Int) ≤ (j : Int) := by omega
          have hr2 := refsO_le x
          by_cases hjl : j < (refsO x).length
          · obtain ⟨A', c', he, hcc, P3⟩ := VidsAt.of_own V3.out rfl
            injection he with e1 e2 e3
            subst e1
            clear e2 e3 hcc
            obtain ⟨b', o', y, rfl, hb', hy, R3⟩ := P3.at_ hjl
            have R3 := Lib.hid R3
            have hbz : w.heap.size + 1 ≤ wr.heap.size := by have := B3.out.size; rw [hz] at this; exact this
            have hlj : (j : Int) < ((refsO x).length : Int) := by omega
            have NE := fun u => neqP y.1 id u
            have K1 : Hid (((wr.alloc (.cells #[.int .u8 0, .int .u16 0, .int .u8 0] 120)).setRow wr.heap.size (encV y).toArray).rangeAt wr.heap.size 0 (encP y.1)) := vid_pid_range (blk_sub ((Blk.new _ _ _).row _) fun j v hv => by simpa using hv)
            have b1 : Hid (Below wr.heap.size wr ((wr.alloc (.cells #[.int .u8 0, .int .u16 0, .int .u8 0] 120)).setRow wr.heap.size (encV y).toArray)) := below_setRow ((Below.refl _ _).alloc (Nat.le_refl _) _) (Nat.le_refl _) _
            clear P3
            go_upto_region 10 with (first
              | (refine wpList_load_mid rfl 120 _ (by rfl) _ _ (by rfl) _ _ R3.out underVid rfl infoVid ?_)
              | (refine wpList_alloced (allocV' _) ?_)
              | (refine wpList_store_row rfl 120 _ _ (by rfl) wr.heap.size (encV y).toArray (by rfl) (by rfl) _ _ (Blk.new _ _ _) infoVid rfl (all_oneCell_toArray (encV_one y)) ?_))
            generalize hw1 : ((wr.alloc (.cells #[.int .u8 0, .int .u16 0, .int .u8 0] 120)).setRow wr.heap.size (encV y).toArray) = w3 at *
            clear hw1
            have O3 := Lib.hid (own_ext O3.out b1.out)
            have V3 := Lib.hid (own_ext V3.out b1.out)
            have B3 := Lib.hid (B3.out.trans (b1.out.mono hbz))
            have R2 := Lib.hid (rangeAt_below R1.out B3.out (Nat.lt_succ_self w.heap.size))
            have hws3 : w.heap.size + 1 ≤ w3.heap.size := Nat.le_trans hbz b1.out.size
            clear b1 R3
            by_cases hv : y.1 = id
            · have E := Lib.hid (part_snoc_out hy hv)
              have NE' : ∀ u : World, (binOp .neq 27 (.agg (encP y.1).toArray) (.agg (encP id).toArray)).run Tryz.prog u = .ok (.bool false) u := fun u => by rw [NE, decide_eq_true hv]; rfl
              clear NE hv hy
              rw [← E.out] at O3
              go_wp2_with (first | (refine wpList_load_mid rfl 27 _ rfl _ _ (by rfl) _ _ K1.out underPid rfl infoPid ?_) | (refine wpList_load_mid rfl 27 _ rfl _ _ (by rfl) _ _ R2.out underPid rfl infoPid ?_))
              go_roundw
              case rel => exact ⟨j + 1, by omega, by go_num, O3, B3, V3⟩
              case measure => simp [intOf]; omega
            · have E := Lib.hid (part_snoc_in hy hv)
              have NE' : ∀ u : World, (binOp .neq 27 (.agg (encP y.1).toArray) (.agg (encP id).toArray)).run Tryz.prog u = .ok (.bool true) u := fun u => by rw [NE, decide_eq_false hv]; rfl
              clear NE hv hy
              have hlen : (rawDeps id (l.take k) ++ partDeps id ((refsO x).take j)).length ≤ 1000 := by
                have h1 := rawDeps_le id (l.take k)
                have h2 := part_le id (refsO x) j
                have h3 := refsO_le x
                rw [List.length_take] at h1
                rw [List.length_append]; omega
              have E2 : rawDeps id (l.take k) ++ partDeps id ((refsO x).take (j + 1)) = (rawDeps id (l.take k) ++ partDeps id ((refsO x).take j)) ++ [y.1] := by rw [E.out, List.append_assoc]
              have E2 := Lib.hid E2
              clear E
              generalize rawDeps id (l.take k) ++ partDeps id ((refsO x).take j) = acc at O3 E2 hlen
              go_wp2_with (first | (refine wpList_load_mid rfl 27 _ rfl _ _ (by rfl) _ _ K1.out underPid rfl infoPid ?_) | (refine wpList_load_mid rfl 27 _ rfl _ _ (by rfl) _ _ R2.out underPid rfl infoPid ?_) | (refine wpList_lit1 pidSl (encP_len y.1) (by omega) (by rfl) ?_) | (at_builtin; refine wpList_pushOnly pidSl O3.out (encP y.1) rfl (encP_one y.1) hws3 (by omega) (by unfold maxLen; omega) _ rfl (by rfl) (by rfl) (by rfl) ?_; intro v5 w5 own5 gr5 bel5))
              have V5 := Lib.hid ((V3.out.alloc _).kept gr5 (own_ne (V3.out.alloc _) (O3.out.alloc (.cells (encP y.1).toArray 27)) (by decide)))
              have B5 := Lib.hid (B3.out.trans bel5)
              have O5 : Hid (w5.ownsRow (w.heap.size + 1) 27 2 v5 (rawDeps id (l.take k) ++ partDeps id ((refsO x).take (j + 1))).length ((rawDeps id (l.take k) ++ partDeps id ((refsO x).take (j + 1))).flatMap encP)) := by
                rw [Hid, E2.out]; simp only [flat_snocP, List.length_append, List.length_cons, List.length_nil, Nat.zero_add]; exact own5
              clear own5 bel5 gr5 O3 B3 V3
              go_roundw
              case rel => exact ⟨j + 1, by omega, by go_num, O5, B5, V5⟩
              case measure => simp [intOf]; omega
          · have E := Lib.hid (part_all (id := id) (show j = (refsO x).length by omega))
            rw [E.out, ← S.out] at O3
            have hlj : ¬ ((j : Int) < ((refsO x).length : Int)) := by omega
            clear E S
            go_wp2_with fail
            go_roundw
            case rel => exact ⟨k + 1, by omega, by go_num, O3, B3⟩
            case measure => simp [intOf]; omega
      · rw [List.take_of_length_le (by rw [L1.out.len]; omega)] at O
        have hlen : (rawDeps id l).length ≤ 100000 := by
          have h1 := rawDeps_le id l
          rw [L1.out.len] at h1; omega
        obtain ⟨A3, c3, rfl, hc3, P3⟩ := PidsAt.of_own O.out rfl
        have hlk : ¬ ((k : Int) < (n : Int)) := by omega
        clear O hc3
        go_wp2_with fail
        refine (setP _ _ A3 _ c3 hlen P3).mono ?_
        rintro e w2 ⟨v4, rfl, S4, b4⟩
        go_wp2
        go_ret
        exact ⟨v4, rfl, own_base S4 (by omega), (B0.out.trans (B.out.mono (Nat.le_succ _))).trans (b4.mono (by omega))⟩)
end Go.Proofs.YtihggkmjalofiaaGreatDoor
