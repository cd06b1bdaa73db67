/- The document's index: a patch by its name; which there are: walked. -/
import Derived.Test.YtnhbbggpgieipaaGreatIdxh
namespace Go.Proofs.YtnhbbggpgieipaaGreat
open Go.RowKit

theorem findP_snoc {l : List PatV} {k : Nat} {p : PatV} {d : PidV} (h : l[k]? = some p) (hn : findP (l.take k) d = none) : findP (l.take (k + 1)) d = if p.1 = d then some p else none := by
  unfold findP at *
  rw [take_snoc' h, List.find?_append, hn]
  by_cases e : p.1 = d
  · rw [if_pos e]; simp [e]
  · rw [if_neg e]; simp [e]
theorem findP_take {l : List PatV} {k : Nat} {p : PatV} {d : PidV} (h : findP (l.take k) d = some p) : findP l d = some p := by
  unfold findP at *
  have e : l = l.take k ++ l.drop k := (List.take_append_drop k l).symm
  rw [e, List.find?_append, h]; rfl
/-- a patch of the slice is handed back, or an empty one -/
def RetGetR (w : World) (G : Nat → Prop) (q : PatV) (b : Bool) (e : Ending) (w' : World) : Prop := ∃ cs : List Value, e = .returned (.tuple #[.agg cs.toArray, .bool b]) ∧ PatIn w' G cs q ∧ Below w.heap.size w w'
set_option maxRecDepth 100000 in
set_option maxHeartbeats 4000000 in
theorem rget31_any (l : List PatV) (d : PidV) (w : World) (G : Nat → Prop) (hG : ∀ k, G k → k < w.heap.size) (A : Option Addr) (n c : Nat) (h : PatsIn w G A n l) (hm : n ≤ maxLen) :
    Calls Tryz.prog 40 #[.slice A n c, .agg (encP d).toArray] w (RetGetR w G (getV l d) (findP l d).isSome) := by
  unfold maxLen at hm
  have H := Lib.hid h
  have K1 : Hid (Blk ((w.alloc (.cells (encP d).toArray 33)).alloc (.cells #[.int .u8 0, .int .u16 0, .slice none 0 0, .slice none 0 0] 37)) w.heap.size 33 (encP d).toArray) := (Blk.new _ _ _).alloc _
  have K2 : Hid (Blk ((w.alloc (.cells (encP d).toArray 33)).alloc (.cells #[.int .u8 0, .int .u16 0, .slice none 0 0, .slice none 0 0] 37)) (w.heap.size + 1) 37 #[.int .u8 0, .int .u16 0, .slice none 0 0, .slice none 0 0]) := Blk.newAt (by simp) _ _
  have B0 : Hid (Below w.heap.size w ((w.alloc (.cells (encP d).toArray 33)).alloc (.cells #[.int .u8 0, .int .u16 0, .slice none 0 0, .slice none 0 0] 37))) := ((Below.refl _ _).alloc (Nat.le_refl _) _).alloc (by simp) _
  have hgr : Hid (w.heap.size ≤ w.heap.size + 1) := Nat.le_succ _
  have hG := Lib.hid hG
  clear h
  go_enter Tryz.func40, Tryz.ntmps40
  go_upto_region 1 with fail
  generalize ((w.alloc (.cells (encP d).toArray 33)).alloc (.cells #[.int .u8 0, .int .u16 0, .slice none 0 0, .slice none 0 0] 37)) = w2 at *
  generalize w.heap.size + 1 = gr at *
  obtain ⟨g0, hg0⟩ : ∃ g0, g0 = w.heap.size := ⟨_, rfl⟩
  rw [← hg0] at K1 ⊢
  have hgG : Hid (∀ k, G k → k ≠ gr) := fun k e c => by have := hG.out k e; have := hgr.out; omega
  clear hg0 hG
  have H := Lib.hid (H.out.ext B0.out)
  go_wp2_with fail
  go_loopw [6] (fun i wr => ∃ k : Nat, k ≤ n ∧ i = .int .i64 k ∧ Hid (findP (l.take k) d = none) ∧ Hid (∃ m, wr = w2.drewN m)) (fun i _ => n - (intOf i).toNat)
  case atStart => exact ⟨0, by omega, rfl, by rw [List.take_zero]; rfl, 0, rfl⟩
  case round =>
    obtain ⟨k, hk, rfl, T, m, rfl⟩ := hrel
    have hk0 : (0 : Int) ≤ (k : Int) := by omega
    by_cases hlt : k < n
    · have hlk : (k : Int) < (n : Int) := by omega
      obtain ⟨b, o, p, r, rfl, hb, hp, pa, R⟩ := H.out.pat_ hlt
      have PA := Lib.hid pa
      have R := Lib.hid R
      obtain ⟨⟨A3, c3, A4, c4, rfl, _, _, _, _⟩, _, _⟩ := PA.out
      have RP := Lib.hid (pid_range R.out)
      have RD := Lib.hid (patC_pid (id := d) (A := none) (n := 0) (c := 0) (A' := none) (n' := 0) (c' := 0) (w := w2) (g := g0) (t := 37))
      have EQ := fun u => eqlP p.1 d u
      clear pa RD
      by_cases e1 : p.1 = d
      · have EQ' : ∀ u : World, (binOp .eql 33 (.agg (encP p.1).toArray) (.agg (encP d).toArray)).run Tryz.prog u = .ok (.bool true) u := fun u => by rw [EQ, decide_eq_true e1]
        have FS : Hid (findP l d = some p) := findP_take (k := k + 1) (by rw [findP_snoc hp T.out, if_pos e1])
        clear EQ e1 hp T
        go_wp2_with fail
        refine wp_region_quiet_lit (by kernel_rfl) (by kernel_rfl) ?_
        repeat (first
          | (refine wpQuiet_load_mid (rangeAt_drewN2 RP.out) underPid rfl infoPid rfl rfl ?_; simp only [List.set_cons_succ, List.set_cons_zero])
          | (refine wpQuiet_load_mid (rangeAt_drewN2 (blk_pat K1.out)) underPid rfl infoPid rfl rfl ?_; simp only [List.set_cons_succ, List.set_cons_zero])
          | go_big_quiet_step (fail))
        refine wpQuiet_nil ?_
        rintro _ ⟨nq, rfl⟩
        rw [World.drewN_drewN]
        generalize m + nq = mm at *
        go_wp2_with (first
          | (refine wpList_load_mid rfl 37 _ (by rfl) b (o + k * 4) (by rfl) _ _ R.out underPat rfl infoPat ?_)
          | (refine wpList_store_row rfl 37 _ _ (by rfl) gr (patC p.1 A3 p.2.1.length c3 A4 p.2.2.length c4).toArray (by rfl) (by rfl) _ _ K2.out infoPat rfl patC_one ?_))
        refine bodyPost_ret (results_row_tmp rfl _ _ gr _ (patC p.1 A3 p.2.1.length c3 A4 p.2.2.length c4).toArray _ rfl ((K2.out.drewN mm).row _) underPat rfl infoPat) rfl ?_
        refine ⟨patC p.1 A3 p.2.1.length c3 A4 p.2.2.length c4, ?_, ?_, below_setRow (below_drewN B0.out mm) hgr.out _⟩
        · rw [FS.out]; rfl
        · rw [getV_some FS.out]
          exact PA.out.stay ⟨by simp, fun k _ hg => setRow_other _ _ _ _ (hgG.out k hg)⟩
      · have EQ' : ∀ u : World, (binOp .eql 33 (.agg (encP p.1).toArray) (.agg (encP d).toArray)).run Tryz.prog u = .ok (.bool false) u := fun u => by rw [EQ, decide_eq_false e1]
        have N : Hid (findP (l.take (k + 1)) d = none) := by rw [Hid, findP_snoc hp T.out, if_neg e1]
        clear EQ e1 hp T
        go_wp2_with fail
        refine wp_region_quiet_lit (by kernel_rfl) (by kernel_rfl) ?_
        repeat (first
          | (refine wpQuiet_load_mid (rangeAt_drewN2 RP.out) underPid rfl infoPid rfl rfl ?_; simp only [List.set_cons_succ, List.set_cons_zero])
          | (refine wpQuiet_load_mid (rangeAt_drewN2 (blk_pat K1.out)) underPid rfl infoPid rfl rfl ?_; simp only [List.set_cons_succ, List.set_cons_zero])
          | go_big_quiet_step (fail))
        refine wpQuiet_nil ?_
        rintro _ ⟨nq, rfl⟩
        rw [World.drewN_drewN]
        go_wp2_with fail
        go_roundw
        case rel => exact ⟨k + 1, by omega, by go_num, N.out, ⟨_, rfl⟩⟩
        case measure => simp [intOf]; omega
    · rw [List.take_of_length_le (by rw [H.out.len]; omega)] at T
      have hlk : ¬ ((k : Int) < (n : Int)) := by omega
      go_wp2_with (first
        | (refine wpList_built (buildPatZ _) (by rfl) ?_)
        | (refine wpList_store_row rfl 37 _ _ (by rfl) gr #[.int .u8 0, .int .u16 0, .slice none 0 0, .slice none 0 0] (by rfl) (by rfl) _ _ K2.out infoPat rfl zeroC_one ?_))
      refine bodyPost_ret (results_row_tmp rfl _ _ gr _ #[.int .u8 0, .int .u16 0, .slice none 0 0, .slice none 0 0] _ rfl ((K2.out.drewN m).row _) underPat rfl infoPat) rfl ?_
      refine ⟨[.int .u8 0, .int .u16 0, .slice none 0 0, .slice none 0 0], ?_, ?_, below_setRow (below_drewN B0.out m) hgr.out _⟩
      · rw [T.out]; rfl
      · rw [getV_none T.out]; exact zeroCells_in _ _
end Go.Proofs.YtnhbbggpgieipaaGreat
