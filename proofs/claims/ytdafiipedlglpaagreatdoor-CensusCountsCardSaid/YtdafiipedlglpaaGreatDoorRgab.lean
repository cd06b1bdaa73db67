/- Texts of general use, one behind another. -/
import Derived.Test.YtdafiipedlglpaaGreatDoorGrhs
import Derived.Test.YtdafiipedlglpaaGreatDoorVids
import Derived.Test.YtdafiipedlglpaaGreatDoorGre

/- The document's graph: was a patch applied; is a vertex killed: walked. -/
namespace Go.Proofs.YtdafiipedlglpaaGreatDoor
open Go.RowKit

theorem eqlPtG {x y : PidV} (h : x = y) (u : World) : (binOp .eql 60 (.agg (encP x).toArray) (.agg (encP y).toArray)).run Tryz.prog u = .ok (.bool true) u := by rw [eqlP, decide_eq_true h]
theorem eqlPfG {x y : PidV} (h : ¬ x = y) (u : World) : (binOp .eql 60 (.agg (encP x).toArray) (.agg (encP y).toArray)).run Tryz.prog u = .ok (.bool false) u := by rw [eqlP, decide_eq_false h]
def hasR20 (L : List PatV) (d : PidV) : Bool := L.any fun p => decide (p.1 = d)
set_option maxRecDepth 100000 in
set_option maxHeartbeats 2000000 in
theorem rhas20_any (L : List PatV) (w : World) (A : Option Addr) (n c : Nat) (hm : n ≤ maxLen) (h : PatsAt w A n L) (d : PidV) :
    Calls Tryz.prog 213 #[.agg #[.slice A n c], .agg (encP d).toArray] w (RetB w (.bool (hasR20 L d))) := by
  unfold maxLen at hm
  have KG : Hid (Blk ((w.alloc (.cells #[.slice A n c] 182)).alloc (.cells (encP d).toArray 60)) w.heap.size 182 #[.slice A n c]) := (Blk.new _ _ _).alloc _
  have KP : Hid (Blk ((w.alloc (.cells #[.slice A n c] 182)).alloc (.cells (encP d).toArray 60)) (w.heap.size + 1) 60 (encP d).toArray) := Blk.newAt (by simp) _ _
  have B0 : Hid (Below w.heap.size w ((w.alloc (.cells #[.slice A n c] 182)).alloc (.cells (encP d).toArray 60))) := ((Below.refl _ _).alloc (Nat.le_refl _) _).alloc (by simp) _
  have PT := Lib.hid (h.ext B0.out)
  have hln := Lib.hid h.len
  clear h
  go_enter Tryz.func213, Tryz.ntmps213
  go_upto_region 1 with fail
  generalize ((w.alloc (.cells #[.slice A n c] 182)).alloc (.cells (encP d).toArray 60)) = w2 at *
  obtain ⟨gp, hgp⟩ : ∃ g, g = w.heap.size + 1 := ⟨_, rfl⟩
  obtain ⟨gg, hgg⟩ : ∃ g, g = w.heap.size := ⟨_, rfl⟩
  rw [← hgp] at KP ⊢
  rw [← hgg] at KG ⊢
  replace hgp := Lib.hid hgp
  replace hgg := Lib.hid hgg
  have yg : w2.cell? ⟨gg, 0, none⟩ = some (.slice A n c) := KG.out.cell 0
  go_wp2_with fail
  go_loopw [5] (fun v wr => ∃ k : Nat, k ≤ n ∧ v = .int .i64 k ∧ Hid (hasR20 (L.take k) d = false) ∧ ∃ q, wr = w2.drewN q) (fun v _ => n - (intOf v).toNat)
  case atStart => exact ⟨0, by omega, rfl, rfl, 0, rfl⟩
  case round =>
    obtain ⟨k, hk, rfl, NI, q, rfl⟩ := hrel
    have hk0 : (0 : Int) ≤ (k : Int) := by omega
    by_cases hlt : k < n
    · have hlk : (k : Int) < (n : Int) := by omega
      obtain ⟨b, o, x, r, rfl, hb, hx, pa, hr⟩ := PT.out.at_ hlt
      obtain ⟨⟨A1, c1, A2, c2, rfl, _, _⟩, _, _⟩ := pa
      have RA := Lib.hid (pid_range hr)
      have RB := Lib.hid (blk_pat KP.out)
      have hT : Hid (hasR20 (L.take (k + 1)) d = decide (x.1 = d)) := by
        have h1 := NI.out
        unfold hasR20 at h1 ⊢
        rw [Hid, List.take_add_one, hx, List.any_append, h1]
        simp
      have hm2 : Hid (x ∈ L) := List.mem_of_getElem? hx
      clear hr hb hx NI
      by_cases e : x.1 = d
      · have EQ := eqlPtG e
        have N : Hid (hasR20 L d = true) := List.any_eq_true.2 ⟨x, hm2.out, decide_eq_true e⟩
        clear e hT hm2
        go_wp2_with fail
        refine wp_region_quiet_lit (by kernel_rfl) (by kernel_rfl) ?_
        repeat (first | (refine wpQuiet_load_mid (rangeAt_drewN2 RA.out) underPid rfl infoPid rfl rfl ?_; simp only [List.set_cons_succ, List.set_cons_zero]) | (refine wpQuiet_load_mid (rangeAt_drewN2 RB.out) underPid rfl infoPid rfl rfl ?_; simp only [List.set_cons_succ, List.set_cons_zero]) | go_big_quiet_step (fail))
        refine wpQuiet_nil ?_
        rintro _ ⟨nq, rfl⟩
        rw [World.drewN_drewN]
        go_wp2
        go_ret
        exact ⟨ret_bool N.out.symm, below_drewN B0.out _⟩
      · have EQ := eqlPfG e
        rw [decide_eq_false e] at hT
        clear e hm2
        go_wp2_with fail
        refine wp_region_quiet_lit (by kernel_rfl) (by kernel_rfl) ?_
        repeat (first | (refine wpQuiet_load_mid (rangeAt_drewN2 RA.out) underPid rfl infoPid rfl rfl ?_; simp only [List.set_cons_succ, List.set_cons_zero]) | (refine wpQuiet_load_mid (rangeAt_drewN2 RB.out) underPid rfl infoPid rfl rfl ?_; simp only [List.set_cons_succ, List.set_cons_zero]) | go_big_quiet_step (fail))
        refine wpQuiet_nil ?_
        rintro _ ⟨nq, rfl⟩
        rw [World.drewN_drewN]
        go_wp2_with fail
        go_roundw
        case rel => exact ⟨k + 1, by omega, by go_num, hT.out, _, rfl⟩
        case measure => simp [intOf]; omega
    · have hlk : ¬ (k : Int) < (n : Int) := by omega
      have N : Hid (hasR20 L d = false) := by
        have h1 := NI.out
        rw [List.take_of_length_le (by rw [hln.out]; omega)] at h1
        exact h1
      clear NI
      go_wp2
      go_ret
      exact ⟨ret_bool N.out.symm, below_drewN B0.out q⟩
def killB (o : OpV) (v : VidV) : Bool := decide (o.1.val = 5) && decide (o.2.1 = v)
def deadB (p : PatV) (v : VidV) : Bool := p.2.2.any fun o => killB o v
def deadR20 (L : List PatV) (v : VidV) : Bool := L.any fun p => deadB p v
theorem anyF_snoc {α : Type} {f : α → Bool} {l : List α} {k : Nat} {x : α} (h : l[k]? = some x) (hn : (l.take k).any f = false) : (l.take (k + 1)).any f = f x := by
  rw [List.take_add_one, h, List.any_append, hn]
  simp
theorem anyF_of {α : Type} {f : α → Bool} {l : List α} {k : Nat} {x : α} (h : l[k]? = some x) (hx : f x = true) : l.any f = true := List.any_eq_true.2 ⟨x, List.mem_of_getElem? h, hx⟩
theorem anyF_all {α : Type} {f : α → Bool} {l : List α} {k : Nat} (hk : l.length ≤ k) (h : (l.take k).any f = false) : l.any f = false := by
  rw [List.take_of_length_le hk] at h
  exact h
theorem allocOp20 (w : World) : (Instr.alloc 152 true (.tuple #[])).run Tryz.prog w = .ok (.pointer (some ⟨w.heap.size, 0, none⟩)) (w.alloc (.cells #[.int .u8 0, .int .u8 0, .int .u16 0, .int .u8 0, .int .u8 0, .int .u16 0, .int .u8 0, .string ByteArray.empty] 152)) := by kernel_rfl
theorem encO_all (o : OpV) : (encO o).toArray.all (·.oneCell') = true := by simp [encO, Value.oneCell']
set_option maxRecDepth 100000 in
set_option maxHeartbeats 4000000 in
theorem rdead20_any (L : List PatV) (w : World) (A : Option Addr) (n c : Nat) (hm : n ≤ maxLen) (h : PatsAt w A n L) (v : VidV) :
    Calls Tryz.prog 220 #[.agg #[.slice A n c], .agg (encV v).toArray] w (RetB w (.bool (deadR20 L v))) := by
  unfold maxLen at hm
  have KG : Hid (Blk ((w.alloc (.cells #[.slice A n c] 182)).alloc (.cells (encV v).toArray 98)) w.heap.size 182 #[.slice A n c]) := (Blk.new _ _ _).alloc _
  have KP : Hid (Blk ((w.alloc (.cells #[.slice A n c] 182)).alloc (.cells (encV v).toArray 98)) (w.heap.size + 1) 98 (encV v).toArray) := Blk.newAt (by simp) _ _
  have B0 : Hid (Below w.heap.size w ((w.alloc (.cells #[.slice A n c] 182)).alloc (.cells (encV v).toArray 98))) := ((Below.refl _ _).alloc (Nat.le_refl _) _).alloc (by simp) _
  have PT := Lib.hid (h.ext B0.out)
  have hln := Lib.hid h.len
  clear h
  go_enter Tryz.func220, Tryz.ntmps220
  go_upto_region 1 with fail
  generalize ((w.alloc (.cells #[.slice A n c] 182)).alloc (.cells (encV v).toArray 98)) = w2 at *
  obtain ⟨gp, hgp⟩ : ∃ g, g = w.heap.size + 1 := ⟨_, rfl⟩
  obtain ⟨gg, hgg⟩ : ∃ g, g = w.heap.size := ⟨_, rfl⟩
  rw [← hgp] at KP ⊢
  rw [← hgg] at KG ⊢
  replace hgp := Lib.hid hgp
  replace hgg := Lib.hid hgg
  go_wp2_with fail
  go_loopw [5] (fun u wr => ∃ k : Nat, k ≤ n ∧ u = .int .i64 k ∧ Hid (deadR20 (L.take k) v = false) ∧ Hid (Below w2.heap.size w2 wr)) (fun u _ => n - (intOf u).toNat)
  case atStart => exact ⟨0, by omega, rfl, rfl, Below.refl _ _⟩
  case round =>
    obtain ⟨k, hk, rfl, NI, B⟩ := hrel
    obtain ⟨wi, rfl⟩ : ∃ wx, wx = wr := ⟨_, rfl⟩
    have hk0 : (0 : Int) ≤ (k : Int) := by omega
    have yg : wi.cell? ⟨gg, 0, none⟩ = some (.slice A n c) := (KG.out.ext B.out).cell 0
    by_cases hlt : k < n
    · have hlk : (k : Int) < (n : Int) := by omega
      obtain ⟨b, o, p, r, rfl, hb, hx, pa, hr⟩ := PT.out.at_ hlt
      obtain ⟨⟨A1, c1, A2, c2, rfl, _, O2⟩, _, hm2⟩ := pa
      have OP := Lib.hid O2
      have RP := Lib.hid hr
      have hb := Lib.hid hb
      have hx := Lib.hid hx
      obtain ⟨m, hmm⟩ : ∃ m, m = p.2.2.length := ⟨_, rfl⟩
      rw [← hmm] at OP RP hm2
      replace hmm := Lib.hid hmm
      unfold maxLen at hm2
      clear hr O2
      go_wp2_with fail
      clear yg
      go_loopw [6] (fun u wr => ∃ j : Nat, j ≤ m ∧ u = .int .i64 j ∧ Hid ((p.2.2.take j).any (fun o => killB o v) = false) ∧ Hid (Below w2.heap.size w2 wr)) (fun u _ => m - (intOf u).toNat)
      case atStart => exact ⟨0, by omega, rfl, rfl, B.out⟩
      case round =>
        clear B
        obtain ⟨j, hj, rfl, NJ, B⟩ := hrel
        obtain ⟨wj, rfl⟩ : ∃ wx, wx = wr := ⟨_, rfl⟩
        have hj0 : (0 : Int) ≤ (j : Int) := by omega
        have yg : wj.cell? ⟨gg, 0, none⟩ = some (.slice (some ⟨b, o, none⟩) n c) := (KG.out.ext B.out).cell 0
        have yo : wj.cell? ⟨b, o + k * 4 + 3, none⟩ = some (.slice A2 m c2) := rangeAt_below RP.out B.out hb.out 3 _ rfl
        by_cases hjt : j < m
        · have hlj : (j : Int) < (m : Int) := by omega
          obtain ⟨b2, o2, x, rfl, hb2, hx2, hr2, _⟩ := OP.out.at_ hjt
          have RO := Lib.hid (rangeAt_below hr2 B.out hb2)
          have NJ1 := Lib.hid (anyF_snoc (f := fun o => killB o v) hx2 NJ.out)
          have hx2 := Lib.hid hx2
          have KO : Hid (Blk ((wj.alloc (.cells #[.int .u8 0, .int .u8 0, .int .u16 0, .int .u8 0, .int .u8 0, .int .u16 0, .int .u8 0, .string ByteArray.empty] 152)).setRow wj.heap.size (encO x).toArray) wj.heap.size 152 (encO x).toArray) := (Blk.new _ _ _).row _
          have BA : Hid (Below wj.heap.size wj ((wj.alloc (.cells #[.int .u8 0, .int .u8 0, .int .u16 0, .int .u8 0, .int .u8 0, .int .u16 0, .int .u8 0, .string ByteArray.empty] 152)).setRow wj.heap.size (encO x).toArray)) := below_setRow ((Below.refl _ _).alloc (Nat.le_refl _) _) (Nat.le_refl _) _
          clear hr2 hb2
          go_upto_region 8 with (first
            | (refine wpList_load_mid rfl 152 _ (by rfl) b2 (o2 + j * 8) (by rfl) _ _ RO.out underOp rfl infoOp ?_)
            | (refine wpList_alloced (allocOp20 _) ?_)
            | (refine wpList_store_row rfl 152 _ _ (by rfl) wj.heap.size (encO x).toArray (by rfl) (by rfl) _ _ (Blk.new _ _ _) infoOp rfl (encO_all _) ?_))
          clear yg yo RO
          have B8 := Lib.hid (B.out.trans (BA.out.mono B.out.size))
          generalize ((wj.alloc (.cells #[.int .u8 0, .int .u8 0, .int .u16 0, .int .u8 0, .int .u8 0, .int .u16 0, .int .u8 0, .string ByteArray.empty] 152)).setRow wj.heap.size (encO x).toArray) = w8 at *
          generalize wj.heap.size = go at *
          have KV := Lib.hid (KP.out.ext B8.out)
          have yk : w8.cell? ⟨go, 0, none⟩ = some (.int .u8 ((x.1.val : Nat) : Int)) := KO.out.cell 0
          have RA := Lib.hid (opv_at (blk_pat KO.out))
          clear BA B KO
          by_cases h5 : x.1.val = 5
          · have z5 : (((x.1.val : Nat) : Int) == 5) = true := by rw [beq_iff_eq]; omega
            by_cases ha : x.2.1 = v
            · have EQ : ∀ u : World, (binOp .eql 98 (.agg (encV x.2.1).toArray) (.agg (encV v).toArray)).run Tryz.prog u = .ok (.bool true) u := fun u => by rw [eqlV, decide_eq_true ha]
              have N : Hid (deadR20 L v = true) := anyF_of hx.out (anyF_of hx2.out (by unfold killB; rw [decide_eq_true h5, decide_eq_true ha]; rfl))
              have BF := Lib.hid (B0.out.trans (B8.out.mono B0.out.size))
              replace ha := Lib.hid ha
              replace h5 := Lib.hid h5
              go_wp2_with (first
                | (refine wpList_load_midG (by kernel_rfl) 98 _ (by rfl) go (0 + 1) (by rfl) _ _ RA.out underVid rfl infoVid ?_)
                | (refine wpList_load_rowG (by kernel_rfl) 98 _ (by rfl) gp (by rfl) _ _ _ _ KV.out underVid rfl infoVid ?_))
              go_ret
              exact ⟨ret_bool N.out.symm, BF.out⟩
            · have EQ : ∀ u : World, (binOp .eql 98 (.agg (encV x.2.1).toArray) (.agg (encV v).toArray)).run Tryz.prog u = .ok (.bool false) u := fun u => by rw [eqlV, decide_eq_false ha]
              have N : Hid ((p.2.2.take (j + 1)).any (fun o => killB o v) = false) := by rw [Hid, NJ1.out]; unfold killB; rw [decide_eq_false ha, Bool.and_false]
              replace ha := Lib.hid ha
              replace h5 := Lib.hid h5
              go_wp2_with (first
                | (refine wpList_load_midG (by kernel_rfl) 98 _ (by rfl) go (0 + 1) (by rfl) _ _ RA.out underVid rfl infoVid ?_)
                | (refine wpList_load_rowG (by kernel_rfl) 98 _ (by rfl) gp (by rfl) _ _ _ _ KV.out underVid rfl infoVid ?_))
              go_roundw
              case rel => exact ⟨j + 1, by omega, by go_num, N.out, B8.out⟩
              case measure => simp [intOf]; omega
          · have z5 : (((x.1.val : Nat) : Int) == 5) = false := by rw [beq_eq_false_iff_ne]; omega
            have N : Hid ((p.2.2.take (j + 1)).any (fun o => killB o v) = false) := by rw [Hid, NJ1.out]; unfold killB; rw [decide_eq_false h5, Bool.false_and]
            replace h5 := Lib.hid h5
            go_wp2_with fail
            go_roundw
            case rel => exact ⟨j + 1, by omega, by go_num, N.out, B8.out⟩
            case measure => simp [intOf]; omega
        · have hlj : ¬ (j : Int) < (m : Int) := by omega
          have N : Hid (deadR20 (L.take (k + 1)) v = false) := by
            unfold deadR20
            rw [Hid, anyF_snoc hx.out NI.out]
            exact anyF_all (by have := hmm.out; omega) NJ.out
          go_wp2_with fail
          go_roundw
          case rel => exact ⟨k + 1, by omega, by go_num, N.out, B.out⟩
          case measure => simp [intOf]; omega
    · have hlk : ¬ (k : Int) < (n : Int) := by omega
      have N : Hid (deadR20 L v = false) := anyF_all (by rw [hln.out]; omega) NI.out
      have BF := Lib.hid (B0.out.trans (B.out.mono B0.out.size))
      clear NI
      go_wp2
      go_ret
      exact ⟨ret_bool N.out.symm, BF.out⟩
end Go.Proofs.YtdafiipedlglpaaGreatDoor

/- The document's graph: a vertex by its name: walked. -/
namespace Go.Proofs.YtdafiipedlglpaaGreatDoor
open Go.RowKit

set_option maxHeartbeats 400000 in
theorem rmakes20_any (k : Int) (w : World) (hk : 0 ≤ k ∧ k < 256) : Calls Tryz.prog 217 #[.int .u8 k] w (Ret w (.bool (makesB k))) := by
  obtain ⟨hk0, hk1⟩ := hk
  by_cases c1 : k = 1
  · subst c1
    go_enter Tryz.func217, Tryz.ntmps217
    go_wp2
    go_ret
    exact ⟨rfl, rfl⟩
  by_cases c2 : k = 2
  · subst c2
    go_enter Tryz.func217, Tryz.ntmps217
    go_wp2
    go_ret
    exact ⟨rfl, rfl⟩
  by_cases c3 : k = 3
  · subst c3
    go_enter Tryz.func217, Tryz.ntmps217
    go_wp2
    go_ret
    exact ⟨rfl, rfl⟩
  have F := Lib.hid (makesB_f (k := k) (by omega))
  have d1 : (k == 1) = false := by simpa using c1
  have d2 : (k == 2) = false := by simpa using c2
  have d3 : (k == 3) = false := by simpa using c3
  go_enter Tryz.func217, Tryz.ntmps217
  go_wp2
  go_ret
  exact ⟨ret_bool F.out.symm, rfl⟩
theorem rawV_snoc1 {L : List PatV} {k : Nat} {p : PatV} {v : VidV} (h : L[k]? = some p) (hn : rawV (L.take k) v = none) : rawV (L.take (k + 1)) v = rawP p v := by
  unfold rawV at *
  rw [List.take_add_one, h, List.findSome?_append, hn]
  simp
theorem rawV_hit {L : List PatV} {k : Nat} {p : PatV} {v : VidV} {r : RawV} (h : L[k]? = some p) (hn : rawV (L.take k) v = none) (hr : rawP p v = some r) : rawV L v = some r := by
  have h1 := (rawV_snoc1 h hn).trans hr
  have e : L = L.take (k + 1) ++ L.drop (k + 1) := (List.take_append_drop _ L).symm
  unfold rawV at *
  rw [e, List.findSome?_append, h1]
  rfl
theorem underG20 : Tryz.prog.underlying 182 = some (.struct (Tryz.prog.fieldsOf 182)) := by kernel_rfl
theorem infoG20 : (Tryz.prog.info? 182).map (·.size) = some 1 := by kernel_rfl
theorem allocVid20 (w : World) : (Instr.alloc 98 true (.tuple #[])).run Tryz.prog w = .ok (.pointer (some ⟨w.heap.size, 0, none⟩)) (w.alloc (.cells #[.int .u8 0, .int .u16 0, .int .u8 0] 98)) := by kernel_rfl
theorem encV_all20 (v : VidV) : (encV v).toArray.all (·.oneCell') = true := by simp [encV, Value.oneCell']
theorem buildX20 (v : VidV) (k : Fin 256) (a : VidV) (s : ByteArray) (d : Bool) (w : World) : (Instr.build 100 #[(0, .agg (encV v).toArray), (1, .int .u8 ((k.val : Nat) : Int)), (2, .agg (encV a).toArray), (3, .string s), (4, .bool d)]).run Tryz.prog w = .ok (.agg (encX (v, k, a, s, d)).toArray) w := by kernel_rfl
theorem buildXz (w : World) : (Instr.build 100 #[]).run Tryz.prog w = .ok (.agg (encX zeroVert).toArray) w := by kernel_rfl
theorem Kept.row20 {F : Nat → Prop} {a w : World} (h : Kept F a w) {g : Nat} (hp : F g ∨ a.heap.size ≤ g) (cs : Array Value) : Kept F a (w.setRow g cs) :=
  ⟨h.os, h.tape, h.output, by simpa [World.setRow] using h.size, fun k hk hn => (setRow_other w g k cs (by rintro rfl; exact hp.elim hn (fun e => by omega))).trans (h.block k hk hn)⟩
theorem vid_pid20 {w : World} {b o : Nat} {x : VidV} (h : w.rangeAt b o (encV x)) : w.rangeAt b o (encP x.1) := fun j v hj =>
  match j, hj with
  | 0, hj => h 0 v hj
  | 1, hj => h 1 v hj
  | j + 2, hj => by simp [encP] at hj
set_option maxRecDepth 100000 in
set_option maxHeartbeats 8000000 in
theorem rvert20_any (L : List PatV) (w : World) (A : Option Addr) (n c : Nat) (hm : n ≤ maxLen) (h : PatsAt w A n L) (v : VidV) :
    Calls Tryz.prog 179 #[.agg #[.slice A n c], .agg (encV v).toArray] w (RetVert w (vertD L v) (vertV L v).isSome) := by
  have hm0 := Lib.hid hm
  unfold maxLen at hm
  have KG : Hid (Blk (((w.alloc (.cells #[.slice A n c] 182)).alloc (.cells (encV v).toArray 98)).alloc (.cells zeroX 100)) w.heap.size 182 #[.slice A n c]) := ((Blk.new _ _ _).alloc _).alloc _
  have KV : Hid (Blk (((w.alloc (.cells #[.slice A n c] 182)).alloc (.cells (encV v).toArray 98)).alloc (.cells zeroX 100)) (w.heap.size + 1) 98 (encV v).toArray) := (Blk.newAt (by simp) _ _).alloc _
  have KR : Hid (Blk (((w.alloc (.cells #[.slice A n c] 182)).alloc (.cells (encV v).toArray 98)).alloc (.cells zeroX 100)) (w.heap.size + 1 + 1) 100 zeroX) := Blk.newAt (by simp) _ _
  have B0 : Hid (Below w.heap.size w (((w.alloc (.cells #[.slice A n c] 182)).alloc (.cells (encV v).toArray 98)).alloc (.cells zeroX 100))) := (((Below.refl _ _).alloc (Nat.le_refl _) _).alloc (by simp) _).alloc (by simp; omega) _
  have PT := Lib.hid (h.ext B0.out)
  have hln := Lib.hid h.len
  clear h
  go_enter Tryz.func179, Tryz.ntmps179
  go_upto_region 1 with (refine wpList_alloced (allocVert _) ?_)
  generalize (((w.alloc (.cells #[.slice A n c] 182)).alloc (.cells (encV v).toArray 98)).alloc (.cells zeroX 100)) = w2 at *
  obtain ⟨gr, hgr⟩ : ∃ g, g = w.heap.size + 1 + 1 := ⟨_, rfl⟩
  obtain ⟨gv, hgv⟩ : ∃ g, g = w.heap.size + 1 := ⟨_, rfl⟩
  obtain ⟨gg, hgg⟩ : ∃ g, g = w.heap.size := ⟨_, rfl⟩
  rw [← hgr] at KR ⊢
  rw [← hgv] at KV ⊢
  rw [← hgg] at KG ⊢
  have hgw : Hid (w.heap.size ≤ gr) := by rw [Hid]; omega
  have hne1 : Hid (gv ≠ gr) := by rw [Hid]; omega
  have hne2 : Hid (gg ≠ gr) := by rw [Hid]; omega
  replace hgr := Lib.hid hgr
  replace hgv := Lib.hid hgv
  replace hgg := Lib.hid hgg
  go_wp2_with fail
  go_loopw [6] (fun u wr => ∃ k : Nat, k ≤ n ∧ u = .int .i64 k ∧ Hid (rawV (L.take k) v = none) ∧ Hid (Below w2.heap.size w2 wr)) (fun u _ => n - (intOf u).toNat)
  case atStart => exact ⟨0, by omega, rfl, rfl, Below.refl _ _⟩
  case round =>
    obtain ⟨k, hk, rfl, NI, B⟩ := hrel
    obtain ⟨wi, rfl⟩ : ∃ wx, wx = wr := ⟨_, rfl⟩
    have hk0 : (0 : Int) ≤ (k : Int) := by omega
    have yg : wi.cell? ⟨gg, 0, none⟩ = some (.slice A n c) := (KG.out.ext B.out).cell 0
    by_cases hlt : k < n
    · have hlk : (k : Int) < (n : Int) := by omega
      obtain ⟨b, o, p, r, rfl, hb, hx, pa, hr⟩ := PT.out.at_ hlt
      obtain ⟨⟨A1, c1, A2, c2, rfl, _, O2⟩, _, hm2⟩ := pa
      have OP := Lib.hid (O2.ext B.out)
      have RP := Lib.hid (rangeAt_below hr B.out hb)
      have hx := Lib.hid hx
      have hN := Lib.hid (rawV_snoc1 hx.out NI.out)
      have hS := Lib.hid (fun r hr => rawV_hit (r := r) hx.out NI.out hr)
      obtain ⟨m, hmm⟩ : ∃ m, m = p.2.2.length := ⟨_, rfl⟩
      rw [← hmm] at OP RP hm2
      replace hmm := Lib.hid hmm
      unfold maxLen at hm2
      clear hr O2 hb NI hx
      have KQ : Hid (Blk ((wi.alloc (.cells #[.int .u8 0, .int .u16 0, .slice none 0 0, .slice none 0 0] 64)).setRow wi.heap.size (patC p.1 A1 p.2.1.length c1 A2 m c2).toArray) wi.heap.size 64 (patC p.1 A1 p.2.1.length c1 A2 m c2).toArray) := (Blk.new _ _ _).row _
      have BA : Hid (Below wi.heap.size wi ((wi.alloc (.cells #[.int .u8 0, .int .u16 0, .slice none 0 0, .slice none 0 0] 64)).setRow wi.heap.size (patC p.1 A1 p.2.1.length c1 A2 m c2).toArray)) := below_setRow ((Below.refl _ _).alloc (Nat.le_refl _) _) (Nat.le_refl _) _
      go_upto_region 5 with (first
        | (refine wpList_load_mid rfl 64 _ (by rfl) b (o + k * 4) (by rfl) _ _ RP.out underPat rfl infoPat ?_)
        | (refine wpList_alloced (allocPat _) ?_)
        | (refine wpList_store_row rfl 64 _ _ (by rfl) wi.heap.size (patC p.1 A1 p.2.1.length c1 A2 m c2).toArray (by rfl) (by rfl) _ _ (Blk.new _ _ _) infoPat rfl patC_one ?_))
      clear yg RP
      have B5 := Lib.hid (B.out.trans (BA.out.mono B.out.size))
      have OP := Lib.hid (OP.out.ext BA.out)
      generalize ((wi.alloc (.cells #[.int .u8 0, .int .u16 0, .slice none 0 0, .slice none 0 0] 64)).setRow wi.heap.size (patC p.1 A1 p.2.1.length c1 A2 m c2).toArray) = w5 at *
      generalize wi.heap.size = gq at *
      clear BA B
      have KV5 := Lib.hid (KV.out.ext B5.out)
      have RV := Lib.hid (vid_pid20 (blk_pat KV5.out))
      have RQ := Lib.hid (patC_pid KQ.out)
      have yn : w5.cell? ⟨gv, 2, none⟩ = some (.int .u8 ((v.2.val : Nat) : Int)) := KV5.out.cell 2
      have yo : w5.cell? ⟨gq, 3, none⟩ = some (.slice A2 m c2) := KQ.out.cell 3
      have NE := Lib.hid (fun u => neqP p.1 v.1 u)
      by_cases hid : p.1 = v.1
      · have NE' : ∀ u : World, (binOp .neq 60 (.agg #[.int .u8 ((p.1.1.val : Nat) : Int), .int .u16 ((p.1.2.val : Nat) : Int)]) (.agg #[.int .u8 ((v.1.1.val : Nat) : Int), .int .u16 ((v.1.2.val : Nat) : Int)])).run Tryz.prog u = .ok (.bool false) u := fun u => (NE.out u).trans (by rw [decide_eq_true hid]; rfl)
        have q0 : w5.cell? ⟨gq, 0, none⟩ = some (.int .u8 ((p.1.1.val : Nat) : Int)) := KQ.out.cell 0
        have q1 : w5.cell? ⟨gq, 1, none⟩ = some (.int .u16 ((p.1.2.val : Nat) : Int)) := KQ.out.cell 1
        have v0 : w5.cell? ⟨gv, 0, none⟩ = some (.int .u8 ((v.1.1.val : Nat) : Int)) := KV5.out.cell 0
        have v1 : w5.cell? ⟨gv, 1, none⟩ = some (.int .u16 ((v.1.2.val : Nat) : Int)) := KV5.out.cell 1
        have hv0 : (0 : Int) ≤ ((v.2.val : Nat) : Int) := by omega
        have hw8 : IntKind.i64.wrap ((v.2.val : Nat) : Int) = ((v.2.val : Nat) : Int) := by have := v.2.isLt; rw [IntKind.wrap_i64]; omega
        by_cases hvm : v.2.val < m
        · have hvi : ((v.2.val : Nat) : Int) < (m : Int) := by omega
          obtain ⟨b2, o2, x, rfl, hb2, hx2, hr2, _⟩ := OP.out.at_ hvm
          have yk : w5.cell? ⟨b2, o2 + v.2.val * 8, none⟩ = some (.int .u8 ((x.1.val : Nat) : Int)) := hr2 0 _ rfl
          have HMk := Lib.hid (rmakes20_any ((x.1.val : Nat) : Int) w5 ⟨by omega, by have := x.1.isLt; omega⟩)
          rw [makesO_eq] at HMk
          have hraw : Hid (rawP p v = if makesO x = true then some (rawO x v) else none) := by unfold rawP; rw [Hid, if_pos hid, hx2]
          have hr2 := Lib.hid hr2
          have hb2 := Lib.hid hb2
          clear hx2 NE
          replace hid := Lib.hid hid
          by_cases mk : makesO x = true
          · rw [mk] at HMk
            have hraw2 := hS.out _ (by rw [hraw.out, if_pos mk])
            obtain ⟨fv, hfv⟩ : ∃ fv, fv = (if x.1.val = 1 then v else x.2.1) := ⟨_, rfl⟩
            have E1 : Hid (vertD L v = (v, x.1, fv, x.2.2.2, deadR20 L v) ∧ (vertV L v).isSome = true) := by
              have e : vertV L v = some (v, x.1, fv, x.2.2.2, deadR20 L v) := by
                unfold vertV
                rw [hraw2, hfv]
                rfl
              exact ⟨by unfold vertD; rw [e]; rfl, by rw [e]; rfl⟩
            clear hraw2 hraw hS hN mk
            replace hfv := Lib.hid hfv
            have hcD : ∀ args u, (callFunc 220 args).run Tryz.prog u = .ok (.enter 220 args) u := enters_of Tryz.func220 (by kernel_rfl) rfl
            go_wp2_with fail
            refine HMk.out.mono ?_
            rintro e _ ⟨rfl, rfl⟩
            clear q0 q1 v0 v1 NE' HMk yk
            have KO6 : Hid (Blk ((w5.alloc (.cells #[.int .u8 0, .int .u8 0, .int .u16 0, .int .u8 0, .int .u8 0, .int .u16 0, .int .u8 0, .string ByteArray.empty] 152)).setRow w5.heap.size (encO x).toArray) w5.heap.size 152 (encO x).toArray) := (Blk.new _ _ _).row _
            have BO : Hid (Below w5.heap.size w5 ((w5.alloc (.cells #[.int .u8 0, .int .u8 0, .int .u16 0, .int .u8 0, .int .u8 0, .int .u16 0, .int .u8 0, .string ByteArray.empty] 152)).setRow w5.heap.size (encO x).toArray)) := below_setRow ((Below.refl _ _).alloc (Nat.le_refl _) _) (Nat.le_refl _) _
            go_upto_region 7 with (first
              | (refine wpList_load_mid rfl 152 _ (by rfl) b2 (o2 + v.2.val * 8) (by rfl) _ _ hr2.out underOp rfl infoOp ?_)
              | (refine wpList_alloced (allocOp20 _) ?_)
              | (refine wpList_store_row rfl 152 _ _ (by rfl) w5.heap.size (encO x).toArray (by rfl) (by rfl) _ _ (Blk.new _ _ _) infoOp rfl (encO_all _) ?_))
            have B6 := Lib.hid (B5.out.trans (BO.out.mono B5.out.size))
            have hgo : Hid (w2.heap.size ≤ w5.heap.size) := B5.out.size
            clear BO hr2 hb2 KV5 RV RQ KQ yn yo OP hvi hv0 hw8 B5
            generalize ((w5.alloc (.cells #[.int .u8 0, .int .u8 0, .int .u16 0, .int .u8 0, .int .u8 0, .int .u16 0, .int .u8 0, .string ByteArray.empty] 152)).setRow w5.heap.size (encO x).toArray) = w6 at *
            generalize w5.heap.size = go at *
            have RA := Lib.hid (opv_at (blk_pat KO6.out))
            have KF7 : Hid (Blk ((w6.alloc (.cells #[.int .u8 0, .int .u16 0, .int .u8 0] 98)).setRow w6.heap.size (encV x.2.1).toArray) w6.heap.size 98 (encV x.2.1).toArray) := (Blk.new _ _ _).row _
            have BF : Hid (Below w6.heap.size w6 ((w6.alloc (.cells #[.int .u8 0, .int .u16 0, .int .u8 0] 98)).setRow w6.heap.size (encV x.2.1).toArray)) := below_setRow ((Below.refl _ _).alloc (Nat.le_refl _) _) (Nat.le_refl _) _
            go_upto_region 8 with (first
              | (refine wpList_load_mid rfl 98 _ (by rfl) go (0 + 1) (by rfl) _ _ RA.out underVid rfl infoVid ?_)
              | (refine wpList_alloced (allocVid20 _) ?_)
              | (refine wpList_store_row rfl 98 _ _ (by rfl) w6.heap.size (encV x.2.1).toArray (by rfl) (by rfl) _ _ (Blk.new _ _ _) infoVid rfl (encV_all20 _) ?_))
            have B7 := Lib.hid (B6.out.trans (BF.out.mono B6.out.size))
            have KO7 := Lib.hid (KO6.out.ext BF.out)
            have hgf : Hid (w2.heap.size ≤ w6.heap.size) := B6.out.size
            have hfo : Hid (go ≠ w6.heap.size) := by have := KO6.out.lt; rw [Hid]; omega
            clear BF B6 RA KO6
            generalize ((w6.alloc (.cells #[.int .u8 0, .int .u16 0, .int .u8 0] 98)).setRow w6.heap.size (encV x.2.1).toArray) = w7 at *
            generalize w6.heap.size = gf at *
            have hnv : Hid (¬ (fun k => k = gr) gv) := fun e => hne1.out e
            have hng : Hid (¬ (fun k => k = gr) gg) := fun e => hne2.out e
            have hr2 : Hid (gr < w2.heap.size) := KR.out.lt
            have hno : Hid (¬ (fun k => k = gr) go) := fun e => by have e : go = gr := e; have := hgo.out; have := hr2.out; omega
            have hnf : Hid (¬ (fun k => k = gr) gf) := fun e => by have e : gf = gr := e; have := hgf.out; have := hr2.out; omega
            have yk : w7.cell? ⟨go, 0, none⟩ = some (.int .u8 ((x.1.val : Nat) : Int)) := KO7.out.cell 0
            by_cases h1 : x.1.val = 1
            · have z1 : (((x.1.val : Nat) : Int) == 1) = true := by rw [beq_iff_eq]; omega
              have hfv1 : Hid (fv = v) := by rw [Hid, hfv.out, if_pos h1]
              have KV7 := Lib.hid (KV.out.ext B7.out)
              have KF9 := Lib.hid (KF7.out.row (encV v).toArray)
              rw [← hfv1.out] at KF9
              have KO9 := Lib.hid (KO7.out.rowFar hfo.out (encV fv).toArray)
              have B9 := Lib.hid (below_setRow B7.out hgf.out (encV fv).toArray)
              rw [hfv1.out] at KF9 KO9 B9
              replace h1 := Lib.hid h1
              go_upto_region 10 with (first
                | (refine wpList_load_row rfl 98 _ (by rfl) gv (by rfl) _ _ _ _ KV7.out underVid rfl infoVid ?_)
                | (refine wpList_store_row rfl 98 _ _ (by rfl) gf (encV v).toArray (by rfl) (by rfl) _ _ KF7.out infoVid rfl (encV_all20 _) ?_))
              clear yk z1 KV7 KF7 KO7 B7
              generalize (w7.setRow gf (encV v).toArray) = w9 at *
              rw [← hfv1.out] at KF9
              clear hfv1 hfv h1
              have BL9 := Lib.hid (B0.out.trans (B9.out.mono B0.out.size))
              have D := (Below.refl w9.heap.size w9).drew
              have PA8 := Lib.hid ((PT.out.ext B9.out).ext D)
              have KV8 := Lib.hid ((KV.out.ext B9.out).ext D)
              have KG8 := Lib.hid ((KG.out.ext B9.out).ext D)
              have KR8 := Lib.hid ((KR.out.ext B9.out).ext D)
              have KO8 := Lib.hid (KO9.out.ext D)
              have KF8 := Lib.hid (KF9.out.ext D)
              have BL8 := Lib.hid (BL9.out.trans (D.mono BL9.out.size))
              clear B9 KO9 KF9 BL9 D
              refine wp_region_held (S := fun w' => Kept (fun k => k = gr) w9.drew w') mixedS ?_
              change wpAnyH _ _ _ _ _ _ _ _ w9.drew
              generalize w9.drew = w8 at *
              have BK : Hid (Kept (fun k => k = gr) w8 w8) := Kept.refl _ _
              simp only [List.size_toArray, List.length_cons, List.length_nil]
              refine takeV (i := 0) (d := 61) (v := .agg (encV v).toArray) rfl (by kernel_rfl) (by kernel_rfl) (by kernel_rfl) (fun _ _ _ h => h) rfl (fun w' h => exMid rfl (blk_pat (h.blk KV8.out hnv.out)) underVid rfl infoVid) BK.out ?_
              simp only [Act.put, List.setIfInBounds_toArray, List.set_cons_zero, List.set_cons_succ]
              refine takeV (i := 1) (d := 62) (v := .pointer (some ⟨go, 0, none⟩)) rfl (by kernel_rfl) (by kernel_rfl) (by kernel_rfl) (fun _ _ _ h => h) rfl (fun w' _ => exField rfl (fieldOp0 go w')) BK.out ?_
              simp only [Act.put, List.setIfInBounds_toArray, List.set_cons_zero, List.set_cons_succ]
              refine takeV (i := 2) (d := 63) (v := (.int .u8 ((x.1.val : Nat) : Int))) rfl (by kernel_rfl) (by kernel_rfl) (by kernel_rfl) (fun _ _ _ h => h) rfl (fun w' h => exLoad rfl (loadU8c go 0 w' _ ((h.blk KO8.out hno.out).cell 0))) BK.out ?_
              simp only [Act.put, List.setIfInBounds_toArray, List.set_cons_zero, List.set_cons_succ]
              refine takeV (i := 3) (d := 64) (v := .agg (encV fv).toArray) rfl (by kernel_rfl) (by kernel_rfl) (by kernel_rfl) (fun _ _ _ h => h) rfl (fun w' h => exMid rfl (blk_pat (h.blk KF8.out hnf.out)) underVid rfl infoVid) BK.out ?_
              simp only [Act.put, List.setIfInBounds_toArray, List.set_cons_zero, List.set_cons_succ]
              refine takeV (i := 4) (d := 65) (v := .pointer (some ⟨go, 7, none⟩)) rfl (by kernel_rfl) (by kernel_rfl) (by kernel_rfl) (fun _ _ _ h => h) rfl (fun w' _ => exField rfl (fieldOp3 go w')) BK.out ?_
              simp only [Act.put, List.setIfInBounds_toArray, List.set_cons_zero, List.set_cons_succ]
              refine takeV (i := 5) (d := 66) (v := (.string x.2.2.2)) rfl (by kernel_rfl) (by kernel_rfl) (by kernel_rfl) (fun _ _ _ h => h) rfl (fun w' h => exLoad rfl (loadStrc go 7 w' _ ((h.blk KO8.out hno.out).cell 7))) BK.out ?_
              simp only [Act.put, List.setIfInBounds_toArray, List.set_cons_zero, List.set_cons_succ]
              refine takeV (i := 6) (d := 67) (v := .agg #[.slice (some ⟨b, o, none⟩) n c]) rfl (by kernel_rfl) (by kernel_rfl) (by kernel_rfl) (fun _ _ _ h => h) rfl (fun w' h => exMid rfl (blk_pat (cs := [.slice (some ⟨b, o, none⟩) n c]) (h.blk KG8.out hng.out)) underG20 rfl infoG20) BK.out ?_
              simp only [Act.put, List.setIfInBounds_toArray, List.set_cons_zero, List.set_cons_succ]
              refine takeV (i := 7) (d := 68) (v := .agg (encV v).toArray) rfl (by kernel_rfl) (by kernel_rfl) (by kernel_rfl) (fun _ _ _ h => h) rfl (fun w' h => exMid rfl (blk_pat (h.blk KV8.out hnv.out)) underVid rfl infoVid) BK.out ?_
              simp only [Act.put, List.setIfInBounds_toArray, List.set_cons_zero, List.set_cons_succ]
              refine wpAnyH_all (rs := [8]) (by kernel_rfl) (by simp) ?_
              intro i hi
              simp only [List.mem_cons, List.not_mem_nil, or_false] at hi
              subst hi
              refine wpOp_of rfl rfl (wp_called (args := #[.agg #[.slice (some ⟨b, o, none⟩) n c], .agg (encV v).toArray]) hcD (by simp only [List.map_toArray, List.map_cons, List.map_nil]; rfl) (rdead20_any L w8 (some ⟨b, o, none⟩) n c hm0.out PA8.out v) ?_)
              rintro e w_1 ⟨rfl, h_2⟩
              refine ⟨_, rfl, BK.out.then h_2, ?_⟩
              simp only [Act.put, List.setIfInBounds_toArray, List.set_cons_zero, List.set_cons_succ]
              have B_3 := Lib.hid (BK.out.then h_2)
              have F_4 := Lib.hid (PA8.out.ext h_2)
              have F_5 := Lib.hid (KR8.out.ext h_2)
              have F_6 := Lib.hid (BL8.out.trans (h_2.mono BL8.out.size))
              clear BK PA8 KR8 BL8
              clear h_2
              refine takeV (i := 9) (d := 70) (v := (.agg (encX (v, x.1, fv, x.2.2.2, deadR20 L v)).toArray)) rfl (by kernel_rfl) (by kernel_rfl) (by kernel_rfl) (fun _ _ _ h => h) rfl (fun w' _ => exBuild (vs := #[(0, .agg (encV v).toArray), (1, .int .u8 ((x.1.val : Nat) : Int)), (2, .agg (encV fv).toArray), (3, .string x.2.2.2), (4, .bool (deadR20 L v))]) (by simp only [List.map_toArray, List.map_cons, List.map_nil]; rfl) (buildX20 _ _ _ _ _ w')) B_3.out ?_
              simp only [Act.put, List.setIfInBounds_toArray, List.set_cons_zero, List.set_cons_succ]
              refine wpAnyH_all (rs := [10]) (by kernel_rfl) (by simp) ?_
              intro i hi
              simp only [List.mem_cons, List.not_mem_nil, or_false] at hi
              subst hi
              refine wpOp_of rfl rfl (wp_stored (cs := (encX (v, x.1, fv, x.2.2.2, deadR20 L v)).toArray) rfl rfl F_5.out infoVert rfl (encX_all _) ?_)
              refine ⟨Kept.row20 (F := fun k => k = gr) B_3.out (.inl rfl) _, ?_⟩
              have B_7 := Lib.hid (Kept.row20 (F := fun k => k = gr) B_3.out (.inl rfl) (encX (v, x.1, fv, x.2.2.2, deadR20 L v)).toArray)
              have K_8 := Lib.hid (F_5.out.row (encX (v, x.1, fv, x.2.2.2, deadR20 L v)).toArray)
              have L_9 := Lib.hid (below_setRow F_6.out hgw.out (encX (v, x.1, fv, x.2.2.2, deadR20 L v)).toArray)
              clear B_3 F_4 F_5 F_6
              refine takeV (i := 11) (d := 5) (v := .bool true) rfl (by kernel_rfl) (by kernel_rfl) (by kernel_rfl) (fun _ _ _ h => h) rfl (fun _ _ => exAssign (v := .bool true) rfl) B_7.out ?_
              simp only [Act.put, List.setIfInBounds_toArray, List.set_cons_zero, List.set_cons_succ]
              refine wpAnyH_done (by kernel_rfl) ?_ _
              go_wp2_with fail
              refine bodyPost_ret (results_row_tmp rfl _ _ gr _ (encX (v, x.1, fv, x.2.2.2, deadR20 L v)).toArray _ rfl K_8.out underVert rfl infoVert) rfl ?_
              rw [E1.out.1, E1.out.2]
              exact ⟨rfl, L_9.out⟩
            · have z1 : (((x.1.val : Nat) : Int) == 1) = false := by rw [beq_eq_false_iff_ne]; omega
              have hfv1 : Hid (fv = x.2.1) := by rw [Hid, hfv.out, if_neg h1]
              rw [← hfv1.out] at KF7
              replace h1 := Lib.hid h1
              go_upto_region 10 with fail
              clear yk z1
              have KF9 := KF7
              have KO9 := KO7
              have B9 := B7
              clear KF7 KO7 B7 hfv1 hfv h1
              obtain ⟨w9, rfl⟩ : ∃ wx, wx = w7 := ⟨_, rfl⟩
              have BL9 := Lib.hid (B0.out.trans (B9.out.mono B0.out.size))
              have D := (Below.refl w9.heap.size w9).drew
              have PA8 := Lib.hid ((PT.out.ext B9.out).ext D)
              have KV8 := Lib.hid ((KV.out.ext B9.out).ext D)
              have KG8 := Lib.hid ((KG.out.ext B9.out).ext D)
              have KR8 := Lib.hid ((KR.out.ext B9.out).ext D)
              have KO8 := Lib.hid (KO9.out.ext D)
              have KF8 := Lib.hid (KF9.out.ext D)
              have BL8 := Lib.hid (BL9.out.trans (D.mono BL9.out.size))
              clear B9 KO9 KF9 BL9 D
              refine wp_region_held (S := fun w' => Kept (fun k => k = gr) w9.drew w') mixedS ?_
              change wpAnyH _ _ _ _ _ _ _ _ w9.drew
              generalize w9.drew = w8 at *
              have BK : Hid (Kept (fun k => k = gr) w8 w8) := Kept.refl _ _
              simp only [List.size_toArray, List.length_cons, List.length_nil]
              refine takeV (i := 0) (d := 61) (v := .agg (encV v).toArray) rfl (by kernel_rfl) (by kernel_rfl) (by kernel_rfl) (fun _ _ _ h => h) rfl (fun w' h => exMid rfl (blk_pat (h.blk KV8.out hnv.out)) underVid rfl infoVid) BK.out ?_
              simp only [Act.put, List.setIfInBounds_toArray, List.set_cons_zero, List.set_cons_succ]
              refine takeV (i := 1) (d := 62) (v := .pointer (some ⟨go, 0, none⟩)) rfl (by kernel_rfl) (by kernel_rfl) (by kernel_rfl) (fun _ _ _ h => h) rfl (fun w' _ => exField rfl (fieldOp0 go w')) BK.out ?_
              simp only [Act.put, List.setIfInBounds_toArray, List.set_cons_zero, List.set_cons_succ]
              refine takeV (i := 2) (d := 63) (v := (.int .u8 ((x.1.val : Nat) : Int))) rfl (by kernel_rfl) (by kernel_rfl) (by kernel_rfl) (fun _ _ _ h => h) rfl (fun w' h => exLoad rfl (loadU8c go 0 w' _ ((h.blk KO8.out hno.out).cell 0))) BK.out ?_
              simp only [Act.put, List.setIfInBounds_toArray, List.set_cons_zero, List.set_cons_succ]
              refine takeV (i := 3) (d := 64) (v := .agg (encV fv).toArray) rfl (by kernel_rfl) (by kernel_rfl) (by kernel_rfl) (fun _ _ _ h => h) rfl (fun w' h => exMid rfl (blk_pat (h.blk KF8.out hnf.out)) underVid rfl infoVid) BK.out ?_
              simp only [Act.put, List.setIfInBounds_toArray, List.set_cons_zero, List.set_cons_succ]
              refine takeV (i := 4) (d := 65) (v := .pointer (some ⟨go, 7, none⟩)) rfl (by kernel_rfl) (by kernel_rfl) (by kernel_rfl) (fun _ _ _ h => h) rfl (fun w' _ => exField rfl (fieldOp3 go w')) BK.out ?_
              simp only [Act.put, List.setIfInBounds_toArray, List.set_cons_zero, List.set_cons_succ]
              refine takeV (i := 5) (d := 66) (v := (.string x.2.2.2)) rfl (by kernel_rfl) (by kernel_rfl) (by kernel_rfl) (fun _ _ _ h => h) rfl (fun w' h => exLoad rfl (loadStrc go 7 w' _ ((h.blk KO8.out hno.out).cell 7))) BK.out ?_
              simp only [Act.put, List.setIfInBounds_toArray, List.set_cons_zero, List.set_cons_succ]
              refine takeV (i := 6) (d := 67) (v := .agg #[.slice (some ⟨b, o, none⟩) n c]) rfl (by kernel_rfl) (by kernel_rfl) (by kernel_rfl) (fun _ _ _ h => h) rfl (fun w' h => exMid rfl (blk_pat (cs := [.slice (some ⟨b, o, none⟩) n c]) (h.blk KG8.out hng.out)) underG20 rfl infoG20) BK.out ?_
              simp only [Act.put, List.setIfInBounds_toArray, List.set_cons_zero, List.set_cons_succ]
              refine takeV (i := 7) (d := 68) (v := .agg (encV v).toArray) rfl (by kernel_rfl) (by kernel_rfl) (by kernel_rfl) (fun _ _ _ h => h) rfl (fun w' h => exMid rfl (blk_pat (h.blk KV8.out hnv.out)) underVid rfl infoVid) BK.out ?_
              simp only [Act.put, List.setIfInBounds_toArray, List.set_cons_zero, List.set_cons_succ]
              refine wpAnyH_all (rs := [8]) (by kernel_rfl) (by simp) ?_
              intro i hi
              simp only [List.mem_cons, List.not_mem_nil, or_false] at hi
              subst hi
              refine wpOp_of rfl rfl (wp_called (args := #[.agg #[.slice (some ⟨b, o, none⟩) n c], .agg (encV v).toArray]) hcD (by simp only [List.map_toArray, List.map_cons, List.map_nil]; rfl) (rdead20_any L w8 (some ⟨b, o, none⟩) n c hm0.out PA8.out v) ?_)
              rintro e w_1 ⟨rfl, h_2⟩
              refine ⟨_, rfl, BK.out.then h_2, ?_⟩
              simp only [Act.put, List.setIfInBounds_toArray, List.set_cons_zero, List.set_cons_succ]
              have B_3 := Lib.hid (BK.out.then h_2)
              have F_4 := Lib.hid (PA8.out.ext h_2)
              have F_5 := Lib.hid (KR8.out.ext h_2)
              have F_6 := Lib.hid (BL8.out.trans (h_2.mono BL8.out.size))
              clear BK PA8 KR8 BL8
              clear h_2
              refine takeV (i := 9) (d := 70) (v := (.agg (encX (v, x.1, fv, x.2.2.2, deadR20 L v)).toArray)) rfl (by kernel_rfl) (by kernel_rfl) (by kernel_rfl) (fun _ _ _ h => h) rfl (fun w' _ => exBuild (vs := #[(0, .agg (encV v).toArray), (1, .int .u8 ((x.1.val : Nat) : Int)), (2, .agg (encV fv).toArray), (3, .string x.2.2.2), (4, .bool (deadR20 L v))]) (by simp only [List.map_toArray, List.map_cons, List.map_nil]; rfl) (buildX20 _ _ _ _ _ w')) B_3.out ?_
              simp only [Act.put, List.setIfInBounds_toArray, List.set_cons_zero, List.set_cons_succ]
              refine wpAnyH_all (rs := [10]) (by kernel_rfl) (by simp) ?_
              intro i hi
              simp only [List.mem_cons, List.not_mem_nil, or_false] at hi
              subst hi
              refine wpOp_of rfl rfl (wp_stored (cs := (encX (v, x.1, fv, x.2.2.2, deadR20 L v)).toArray) rfl rfl F_5.out infoVert rfl (encX_all _) ?_)
              refine ⟨Kept.row20 (F := fun k => k = gr) B_3.out (.inl rfl) _, ?_⟩
              have B_7 := Lib.hid (Kept.row20 (F := fun k => k = gr) B_3.out (.inl rfl) (encX (v, x.1, fv, x.2.2.2, deadR20 L v)).toArray)
              have K_8 := Lib.hid (F_5.out.row (encX (v, x.1, fv, x.2.2.2, deadR20 L v)).toArray)
              have L_9 := Lib.hid (below_setRow F_6.out hgw.out (encX (v, x.1, fv, x.2.2.2, deadR20 L v)).toArray)
              clear B_3 F_4 F_5 F_6
              refine takeV (i := 11) (d := 5) (v := .bool true) rfl (by kernel_rfl) (by kernel_rfl) (by kernel_rfl) (fun _ _ _ h => h) rfl (fun _ _ => exAssign (v := .bool true) rfl) B_7.out ?_
              simp only [Act.put, List.setIfInBounds_toArray, List.set_cons_zero, List.set_cons_succ]
              refine wpAnyH_done (by kernel_rfl) ?_ _
              go_wp2_with fail
              refine bodyPost_ret (results_row_tmp rfl _ _ gr _ (encX (v, x.1, fv, x.2.2.2, deadR20 L v)).toArray _ rfl K_8.out underVert rfl infoVert) rfl ?_
              rw [E1.out.1, E1.out.2]
              exact ⟨rfl, L_9.out⟩
          · rw [Bool.not_eq_true] at mk
            rw [mk] at HMk
            rw [hraw.out, if_neg (by rw [mk]; decide)] at hN
            clear hraw hS mk
            go_wp2_with fail
            refine HMk.out.mono ?_
            rintro e _ ⟨rfl, rfl⟩
            go_wp2_with fail
            go_roundw
            case rel => exact ⟨k + 1, by omega, by go_num, hN.out, B5.out⟩
            case measure => simp [intOf]; omega
        · have hvi : ¬ ((v.2.val : Nat) : Int) < (m : Int) := by omega
          have hvg : (m : Int) ≤ ((v.2.val : Nat) : Int) := by omega
          have hraw : Hid (rawP p v = none) := by
            unfold rawP
            rw [Hid, if_pos hid, List.getElem?_eq_none (by have := hmm.out; omega)]
          rw [hraw.out] at hN
          clear NE
          replace hid := Lib.hid hid
          replace hvm := Lib.hid hvm
          go_wp2_with fail
          go_roundw
          case rel => exact ⟨k + 1, by omega, by go_num, hN.out, B5.out⟩
          case measure => simp [intOf]; omega
      · have NE' : ∀ u : World, (binOp .neq 60 (.agg #[.int .u8 ((p.1.1.val : Nat) : Int), .int .u16 ((p.1.2.val : Nat) : Int)]) (.agg #[.int .u8 ((v.1.1.val : Nat) : Int), .int .u16 ((v.1.2.val : Nat) : Int)])).run Tryz.prog u = .ok (.bool true) u := fun u => (NE.out u).trans (by rw [decide_eq_false hid]; rfl)
        have hraw : Hid (rawP p v = none) := by unfold rawP; rw [Hid, if_neg hid]
        rw [hraw.out] at hN
        have q0 : w5.cell? ⟨gq, 0, none⟩ = some (.int .u8 ((p.1.1.val : Nat) : Int)) := KQ.out.cell 0
        have q1 : w5.cell? ⟨gq, 1, none⟩ = some (.int .u16 ((p.1.2.val : Nat) : Int)) := KQ.out.cell 1
        have v0 : w5.cell? ⟨gv, 0, none⟩ = some (.int .u8 ((v.1.1.val : Nat) : Int)) := KV5.out.cell 0
        have v1 : w5.cell? ⟨gv, 1, none⟩ = some (.int .u16 ((v.1.2.val : Nat) : Int)) := KV5.out.cell 1
        clear NE yn yo
        replace hid := Lib.hid hid
        go_wp2_with fail
        go_roundw
        case rel => exact ⟨k + 1, by omega, by go_num, hN.out, B5.out⟩
        case measure => simp [intOf]; omega
    · have hlk : ¬ (k : Int) < (n : Int) := by omega
      have N : Hid (rawV L v = none) := by
        have h1 := NI.out
        rw [List.take_of_length_le (by rw [hln.out]; omega)] at h1
        exact h1
      have KR5 := Lib.hid (KR.out.ext B.out)
      have BF := Lib.hid (B0.out.trans (B.out.mono B0.out.size))
      have E1 : Hid (vertD L v = zeroVert ∧ (vertV L v).isSome = false) := by
        have e : vertV L v = none := by unfold vertV; rw [N.out]; rfl
        exact ⟨by unfold vertD; rw [e]; rfl, by rw [e]; rfl⟩
      clear NI N
      go_wp2_with (first
        | (refine wpList_built (buildXz _) (by rfl) ?_)
        | (refine wpList_store_row rfl 100 _ _ (by rfl) gr (encX zeroVert).toArray (by rfl) (by rfl) _ _ KR5.out infoVert rfl (encX_all _) ?_))
      refine bodyPost_ret (results_row_tmp rfl _ _ gr _ (encX zeroVert).toArray _ rfl (KR5.out.row _) underVert rfl infoVert) rfl ?_
      rw [E1.out.1, E1.out.2]
      exact ⟨rfl, below_setRow BF.out hgw.out _⟩
end Go.Proofs.YtdafiipedlglpaaGreatDoor
