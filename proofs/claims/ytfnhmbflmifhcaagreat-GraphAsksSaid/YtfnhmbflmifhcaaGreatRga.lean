/- The document's graph: was a patch applied; is a vertex killed: walked. -/
import Derived.Test.YtfnhmbflmifhcaaGreatGri
import Derived.Test.YtfnhmbflmifhcaaGreatVids
namespace Go.Proofs.YtfnhmbflmifhcaaGreat
open Go.RowKit

theorem eqlPtG {x y : PidV} (h : x = y) (u : World) : (binOp .eql 33 (.agg (encP x).toArray) (.agg (encP y).toArray)).run Tryz.prog u = .ok (.bool true) u := by rw [eqlP, decide_eq_true h]
theorem eqlPfG {x y : PidV} (h : ¬ x = y) (u : World) : (binOp .eql 33 (.agg (encP x).toArray) (.agg (encP y).toArray)).run Tryz.prog u = .ok (.bool false) u := by rw [eqlP, decide_eq_false h]
def hasR20 (L : List PatV) (d : PidV) : Bool := L.any fun p => decide (p.1 = d)
set_option maxRecDepth 100000 in
set_option maxHeartbeats 2000000 in
theorem rhas20_any (L : List PatV) (w : World) (A : Option Addr) (n c : Nat) (hm : n ≤ maxLen) (h : PatsAt w A n L) (d : PidV) :
    Calls Tryz.prog 135 #[.agg #[.slice A n c], .agg (encP d).toArray] w (RetB w (.bool (hasR20 L d))) := by
  unfold maxLen at hm
  have KG : Hid (Blk ((w.alloc (.cells #[.slice A n c] 28)).alloc (.cells (encP d).toArray 33)) w.heap.size 28 #[.slice A n c]) := (Blk.new _ _ _).alloc _
  have KP : Hid (Blk ((w.alloc (.cells #[.slice A n c] 28)).alloc (.cells (encP d).toArray 33)) (w.heap.size + 1) 33 (encP d).toArray) := Blk.newAt (by simp) _ _
  have B0 : Hid (Below w.heap.size w ((w.alloc (.cells #[.slice A n c] 28)).alloc (.cells (encP d).toArray 33))) := ((Below.refl _ _).alloc (Nat.le_refl _) _).alloc (by simp) _
  have PT := Lib.hid (h.ext B0.out)
  have hln := Lib.hid h.len
  clear h
  go_enter Tryz.func135, Tryz.ntmps135
  go_upto_region 1 with fail
  generalize ((w.alloc (.cells #[.slice A n c] 28)).alloc (.cells (encP d).toArray 33)) = w2 at *
  obtain ⟨gp, hgp⟩ : ∃ g, g = w.heap.size + 1 := ⟨_, rfl⟩
  obtain ⟨gg, hgg⟩ : ∃ g, g = w.heap.size := ⟨_, rfl⟩
  rw [← hgp] at KP ⊢
  rw [← hgg] at KG ⊢
  replace hgp := Lib.hid hgp
  replace hgg := Lib.hid hgg
  have yg : w2.cell? ⟨gg, 0, none⟩ = some (.slice A n c) := KG.out.cell 0
  go_wp2_with fail
  go_loopw [5] (fun v wr => ∃ k : Nat, k ≤ n ∧ v = .int .i64 k ∧ Hid (hasR20 (L.take k) d = false) ∧ ∃ q, wr = w2.drewN q) (fun v _ => n - (intOf v).toNat)
  case atStart => exact ⟨0, by omega, rfl, rfl, 0, rfl⟩
  case round =>
    obtain ⟨k, hk, rfl, NI, q, rfl⟩ := hrel
    have hk0 : (0 : Int) ≤ (k : Int) := by omega
    by_cases hlt : k < n
    · have hlk : (k : Int) < (n : Int) := by omega
      obtain ⟨b, o, x, r, rfl, hb, hx, pa, hr⟩ := PT.out.at_ hlt
      obtain ⟨⟨A1, c1, A2, c2, rfl, _, _⟩, _, _⟩ := pa
      have RA := Lib.hid (pid_range hr)
      have RB := Lib.hid (blk_pat KP.out)
      have hT : Hid (hasR20 (L.take (k + 1)) d = decide (x.1 = d)) := by
        have h1 := NI.out
        unfold hasR20 at h1 ⊢
        rw [Hid, List.take_add_one, hx, List.any_append, h1]
        simp
      have hm2 : Hid (x ∈ L) := List.mem_of_getElem? hx
      clear hr hb hx NI
      by_cases e : x.1 = d
      · have EQ := eqlPtG e
        have N : Hid (hasR20 L d = true) := List.any_eq_true.2 ⟨x, hm2.out, decide_eq_true e⟩
        clear e hT hm2
        go_wp2_with fail
        refine wp_region_quiet_lit (by kernel_rfl) (by kernel_rfl) ?_
        repeat (first | (refine wpQuiet_load_mid (rangeAt_drewN2 RA.out) underPid rfl infoPid rfl rfl ?_; simp only [List.set_cons_succ, List.set_cons_zero]) | (refine wpQuiet_load_mid (rangeAt_drewN2 RB.out) underPid rfl infoPid rfl rfl ?_; simp only [List.set_cons_succ, List.set_cons_zero]) | go_big_quiet_step (fail))
        refine wpQuiet_nil ?_
        rintro _ ⟨nq, rfl⟩
        rw [World.drewN_drewN]
        go_wp2
        go_ret
        exact ⟨ret_bool N.out.symm, below_drewN B0.out _⟩
      · have EQ := eqlPfG e
        rw [decide_eq_false e] at hT
        clear e hm2
        go_wp2_with fail
        refine wp_region_quiet_lit (by kernel_rfl) (by kernel_rfl) ?_
        repeat (first | (refine wpQuiet_load_mid (rangeAt_drewN2 RA.out) underPid rfl infoPid rfl rfl ?_; simp only [List.set_cons_succ, List.set_cons_zero]) | (refine wpQuiet_load_mid (rangeAt_drewN2 RB.out) underPid rfl infoPid rfl rfl ?_; simp only [List.set_cons_succ, List.set_cons_zero]) | go_big_quiet_step (fail))
        refine wpQuiet_nil ?_
        rintro _ ⟨nq, rfl⟩
        rw [World.drewN_drewN]
        go_wp2_with fail
        go_roundw
        case rel => exact ⟨k + 1, by omega, by go_num, hT.out, _, rfl⟩
        case measure => simp [intOf]; omega
    · have hlk : ¬ (k : Int) < (n : Int) := by omega
      have N : Hid (hasR20 L d = false) := by
        have h1 := NI.out
        rw [List.take_of_length_le (by rw [hln.out]; omega)] at h1
        exact h1
      clear NI
      go_wp2
      go_ret
      exact ⟨ret_bool N.out.symm, below_drewN B0.out q⟩
def killB (o : OpV) (v : VidV) : Bool := decide (o.1.val = 5) && decide (o.2.1 = v)
def deadB (p : PatV) (v : VidV) : Bool := p.2.2.any fun o => killB o v
def deadR20 (L : List PatV) (v : VidV) : Bool := L.any fun p => deadB p v
theorem anyF_snoc {α : Type} {f : α → Bool} {l : List α} {k : Nat} {x : α} (h : l[k]? = some x) (hn : (l.take k).any f = false) : (l.take (k + 1)).any f = f x := by
  rw [List.take_add_one, h, List.any_append, hn]
  simp
theorem anyF_of {α : Type} {f : α → Bool} {l : List α} {k : Nat} {x : α} (h : l[k]? = some x) (hx : f x = true) : l.any f = true := List.any_eq_true.2 ⟨x, List.mem_of_getElem? h, hx⟩
theorem anyF_all {α : Type} {f : α → Bool} {l : List α} {k : Nat} (hk : l.length ≤ k) (h : (l.take k).any f = false) : l.any f = false := by
  rw [List.take_of_length_le hk] at h
  exact h
theorem allocOp20 (w : World) : (Instr.alloc 110 true (.tuple #[])).run Tryz.prog w = .ok (.pointer (some ⟨w.heap.size, 0, none⟩)) (w.alloc (.cells #[.int .u8 0, .int .u8 0, .int .u16 0, .int .u8 0, .int .u8 0, .int .u16 0, .int .u8 0, .string ByteArray.empty] 110)) := by kernel_rfl
theorem encO_all (o : OpV) : (encO o).toArray.all (·.oneCell') = true := by simp [encO, Value.oneCell']
set_option maxRecDepth 100000 in
set_option maxHeartbeats 4000000 in
theorem rdead20_any (L : List PatV) (w : World) (A : Option Addr) (n c : Nat) (hm : n ≤ maxLen) (h : PatsAt w A n L) (v : VidV) :
    Calls Tryz.prog 76 #[.agg #[.slice A n c], .agg (encV v).toArray] w (RetB w (.bool (deadR20 L v))) := by
  unfold maxLen at hm
  have KG : Hid (Blk ((w.alloc (.cells #[.slice A n c] 28)).alloc (.cells (encV v).toArray 43)) w.heap.size 28 #[.slice A n c]) := (Blk.new _ _ _).alloc _
  have KP : Hid (Blk ((w.alloc (.cells #[.slice A n c] 28)).alloc (.cells (encV v).toArray 43)) (w.heap.size + 1) 43 (encV v).toArray) := Blk.newAt (by simp) _ _
  have B0 : Hid (Below w.heap.size w ((w.alloc (.cells #[.slice A n c] 28)).alloc (.cells (encV v).toArray 43))) := ((Below.refl _ _).alloc (Nat.le_refl _) _).alloc (by simp) _
  have PT := Lib.hid (h.ext B0.out)
  have hln := Lib.hid h.len
  clear h
  go_enter Tryz.func76, Tryz.ntmps76
  go_upto_region 1 with fail
  generalize ((w.alloc (.cells #[.slice A n c] 28)).alloc (.cells (encV v).toArray 43)) = w2 at *
  obtain ⟨gp, hgp⟩ : ∃ g, g = w.heap.size + 1 := ⟨_, rfl⟩
  obtain ⟨gg, hgg⟩ : ∃ g, g = w.heap.size := ⟨_, rfl⟩
  rw [← hgp] at KP ⊢
  rw [← hgg] at KG ⊢
  replace hgp := Lib.hid hgp
  replace hgg := Lib.hid hgg
  go_wp2_with fail
  go_loopw [5] (fun u wr => ∃ k : Nat, k ≤ n ∧ u = .int .i64 k ∧ Hid (deadR20 (L.take k) v = false) ∧ Hid (Below w2.heap.size w2 wr)) (fun u _ => n - (intOf u).toNat)
  case atStart => exact ⟨0, by omega, rfl, rfl, Below.refl _ _⟩
  case round =>
    obtain ⟨k, hk, rfl, NI, B⟩ := hrel
    obtain ⟨wi, rfl⟩ : ∃ wx, wx = wr := ⟨_, rfl⟩
    have hk0 : (0 : Int) ≤ (k : Int) := by omega
    have yg : wi.cell? ⟨gg, 0, none⟩ = some (.slice A n c) := (KG.out.ext B.out).cell 0
    by_cases hlt : k < n
    · have hlk : (k : Int) < (n : Int) := by omega
      obtain ⟨b, o, p, r, rfl, hb, hx, pa, hr⟩ := PT.out.at_ hlt
      obtain ⟨⟨A1, c1, A2, c2, rfl, _, O2⟩, _, hm2⟩ := pa
      have OP := Lib.hid O2
      have RP := Lib.hid hr
      have hb := Lib.hid hb
      have hx := Lib.hid hx
      obtain ⟨m, hmm⟩ : ∃ m, m = p.2.2.length := ⟨_, rfl⟩
      rw [← hmm] at OP RP hm2
      replace hmm := Lib.hid hmm
      unfold maxLen at hm2
      clear hr O2
      go_wp2_with fail
      clear yg
      go_loopw [6] (fun u wr => ∃ j : Nat, j ≤ m ∧ u = .int .i64 j ∧ Hid ((p.2.2.take j).any (fun o => killB o v) = false) ∧ Hid (Below w2.heap.size w2 wr)) (fun u _ => m - (intOf u).toNat)
      case atStart => exact ⟨0, by omega, rfl, rfl, B.out⟩
      case round =>
        clear B
        obtain ⟨j, hj, rfl, NJ, B⟩ := hrel
        obtain ⟨wj, rfl⟩ : ∃ wx, wx = wr := ⟨_, rfl⟩
        have hj0 : (0 : Int) ≤ (j : Int) := by omega
        have yg : wj.cell? ⟨gg, 0, none⟩ = some (.slice (some ⟨b, o, none⟩) n c) := (KG.out.ext B.out).cell 0
        have yo : wj.cell? ⟨b, o + k * 4 + 3, none⟩ = some (.slice A2 m c2) := rangeAt_below RP.out B.out hb.out 3 _ rfl
        by_cases hjt : j < m
        · have hlj : (j : Int) < (m : Int) := by omega
          obtain ⟨b2, o2, x, rfl, hb2, hx2, hr2, _⟩ := OP.out.at_ hjt
          have RO := Lib.hid (rangeAt_below hr2 B.out hb2)
          have NJ1 := Lib.hid (anyF_snoc (f := fun o => killB o v) hx2 NJ.out)
          have hx2 := Lib.hid hx2
          have KO : Hid (Blk ((wj.alloc (.cells #[.int .u8 0, .int .u8 0, .int .u16 0, .int .u8 0, .int .u8 0, .int .u16 0, .int .u8 0, .string ByteArray.empty] 110)).setRow wj.heap.size (encO x).toArray) wj.heap.size 110 (encO x).toArray) := (Blk.new _ _ _).row _
          have BA : Hid (Below wj.heap.size wj ((wj.alloc (.cells #[.int .u8 0, .int .u8 0, .int .u16 0, .int .u8 0, .int .u8 0, .int .u16 0, .int .u8 0, .string ByteArray.empty] 110)).setRow wj.heap.size (encO x).toArray)) := below_setRow ((Below.refl _ _).alloc (Nat.le_refl _) _) (Nat.le_refl _) _
          clear hr2 hb2
          go_upto_region 8 with (first
            | (refine wpList_load_mid rfl 110 _ (by rfl) b2 (o2 + j * 8) (by rfl) _ _ RO.out underOp rfl infoOp ?_)
            | (refine wpList_alloced (allocOp20 _) ?_)
            | (refine wpList_store_row rfl 110 _ _ (by rfl) wj.heap.size (encO x).toArray (by rfl) (by rfl) _ _ (Blk.new _ _ _) infoOp rfl (encO_all _) ?_))
          clear yg yo RO
          have B8 := Lib.hid (B.out.trans (BA.out.mono B.out.size))
          generalize ((wj.alloc (.cells #[.int .u8 0, .int .u8 0, .int .u16 0, .int .u8 0, .int .u8 0, .int .u16 0, .int .u8 0, .string ByteArray.empty] 110)).setRow wj.heap.size (encO x).toArray) = w8 at *
          generalize wj.heap.size = go at *
          have KV := Lib.hid (KP.out.ext B8.out)
          have yk : w8.cell? ⟨go, 0, none⟩ = some (.int .u8 ((x.1.val : Nat) : Int)) := KO.out.cell 0
          have RA := Lib.hid (opv_at (blk_pat KO.out))
          clear BA B KO
          by_cases h5 : x.1.val = 5
          · have z5 : (((x.1.val : Nat) : Int) == 5) = true := by rw [beq_iff_eq]; omega
            by_cases ha : x.2.1 = v
            · have EQ : ∀ u : World, (binOp .eql 43 (.agg (encV x.2.1).toArray) (.agg (encV v).toArray)).run Tryz.prog u = .ok (.bool true) u := fun u => by rw [eqlV, decide_eq_true ha]
              have N : Hid (deadR20 L v = true) := anyF_of hx.out (anyF_of hx2.out (by unfold killB; rw [decide_eq_true h5, decide_eq_true ha]; rfl))
              have BF := Lib.hid (B0.out.trans (B8.out.mono B0.out.size))
              replace ha := Lib.hid ha
              replace h5 := Lib.hid h5
              go_wp2_with (first
                | (refine wpList_load_midG (by kernel_rfl) 43 _ (by rfl) go (0 + 1) (by rfl) _ _ RA.out underVid rfl infoVid ?_)
                | (refine wpList_load_rowG (by kernel_rfl) 43 _ (by rfl) gp (by rfl) _ _ _ _ KV.out underVid rfl infoVid ?_))
              go_ret
              exact ⟨ret_bool N.out.symm, BF.out⟩
            · have EQ : ∀ u : World, (binOp .eql 43 (.agg (encV x.2.1).toArray) (.agg (encV v).toArray)).run Tryz.prog u = .ok (.bool false) u := fun u => by rw [eqlV, decide_eq_false ha]
              have N : Hid ((p.2.2.take (j + 1)).any (fun o => killB o v) = false) := by rw [Hid, NJ1.out]; unfold killB; rw [decide_eq_false ha, Bool.and_false]
              replace ha := Lib.hid ha
              replace h5 := Lib.hid h5
              go_wp2_with (first
                | (refine wpList_load_midG (by kernel_rfl) 43 _ (by rfl) go (0 + 1) (by rfl) _ _ RA.out underVid rfl infoVid ?_)
                | (refine wpList_load_rowG (by kernel_rfl) 43 _ (by rfl) gp (by rfl) _ _ _ _ KV.out underVid rfl infoVid ?_))
              go_roundw
              case rel => exact ⟨j + 1, by omega, by go_num, N.out, B8.out⟩
              case measure => simp [intOf]; omega
          · have z5 : (((x.1.val : Nat) : Int) == 5) = false := by rw [beq_eq_false_iff_ne]; omega
            have N : Hid ((p.2.2.take (j + 1)).any (fun o => killB o v) = false) := by rw [Hid, NJ1.out]; unfold killB; rw [decide_eq_false h5, Bool.false_and]
            replace h5 := Lib.hid h5
            go_wp2_with fail
            go_roundw
            case rel => exact ⟨j + 1, by omega, by go_num, N.out, B8.out⟩
            case measure => simp [intOf]; omega
        · have hlj : ¬ (j : Int) < (m : Int) := by omega
          have N : Hid (deadR20 (L.take (k + 1)) v = false) := by
            unfold deadR20
            rw [Hid, anyF_snoc hx.out NI.out]
            exact anyF_all (by have := hmm.out; omega) NJ.out
          go_wp2_with fail
          go_roundw
          case rel => exact ⟨k + 1, by omega, by go_num, N.out, B.out⟩
          case measure => simp [intOf]; omega
    · have hlk : ¬ (k : Int) < (n : Int) := by omega
      have N : Hid (deadR20 L v = false) := anyF_all (by rw [hln.out]; omega) NI.out
      have BF := Lib.hid (B0.out.trans (B.out.mono B0.out.size))
      clear NI
      go_wp2
      go_ret
      exact ⟨ret_bool N.out.symm, BF.out⟩
end Go.Proofs.YtfnhmbflmifhcaaGreat
