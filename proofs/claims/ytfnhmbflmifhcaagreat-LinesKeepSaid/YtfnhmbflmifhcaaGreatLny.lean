/- Texts of general use, one behind another. -/
import Derived.Test.YtfnhmbflmifhcaaGreatLnx
import Derived.Test.YtfnhmbflmifhcaaGreatGrns
import Derived.Test.YtfnhmbflmifhcaaGreatPaws
import Derived.Test.YtfnhmbflmifhcaaGreatLits

/- Two lists of numbers that are the same: walked (bruitlaw07.Ints). -/
namespace Go.Proofs.YtfnhmbflmifhcaaGreat
open Go.RowKit

set_option maxRecDepth 100000 in
set_option maxHeartbeats 1000000 in
theorem ints_same (F : List Nat) (w : World) (A A' : Option Addr) (n c c' : Nat) (hn : F.length = n) (h : Sl w w.heap.size 1 A n (encN F)) (h' : Sl w w.heap.size 1 A' n (encN F)) (hm : n ≤ maxLen) :
    Calls Tryz.prog 50 #[.slice A n c, .slice A' n c'] w (RetD w (.int .i64 1)) := by
  unfold maxLen at hm
  have H := Lib.hid h
  have H' := Lib.hid h'
  replace hn := Lib.hid hn
  clear h h'
  go_enter Tryz.func50, Tryz.ntmps50
  go_wp2_with fail
  go_loopw [5] (fun i wr => ∃ k : Nat, k ≤ n ∧ i = .int .i64 k ∧ ∃ q, wr = w.drewN q) (fun i _ => n - (intOf i).toNat)
  case atStart => exact ⟨0, by omega, rfl, 0, rfl⟩
  case round =>
    obtain ⟨k, hk, rfl, q, rfl⟩ := hrel
    by_cases hlt : k < n
    · obtain ⟨b, o, x, rfl, hb, hx, R1⟩ := sl_cell H.out hn.out hlt
      obtain ⟨b', o', y, rfl, hb', hy, R2⟩ := sl_cell H'.out hn.out hlt
      obtain rfl : x = y := Option.some.inj (hx.symm.trans hy)
      have hlk : (k : Int) < (n : Int) := by omega
      have hk0 : (0 : Int) ≤ (k : Int) := by omega
      clear hx hy
      go_wp2_with fail
      refine wp_region_quiet_lit (by kernel_rfl) (by kernel_rfl) ?_
      repeat (go_big_quiet_step (fail))
      refine wpQuiet_nil ?_
      rintro _ ⟨nq, rfl⟩
      go_wp2_with fail
      go_roundw
      case rel => exact ⟨k + 1, by omega, by go_num, ⟨_, rfl⟩⟩
      case measure => simp [intOf]; omega
    · go_wp2
      go_ret
      exact ⟨rfl, q, rfl⟩
end Go.Proofs.YtfnhmbflmifhcaaGreat

/- The chapter's example of lines: what it comes to: plain. -/
namespace Go.Proofs.YtfnhmbflmifhcaaGreat
open Go.RowKit

def w21i : PidV := (1, 1)
def w21j : PidV := (1, 2)
def w21f : VidV := vidOf w21i 0
def w21a : OpV := (1, vid0, vid0, ByteArray.empty)
def w21b : OpV := (3, w21f, vid0, ByteArray.empty)
def w21c : OpV := (4, vidOf w21i 1, vidOf w21i 2, ByteArray.empty)
def w21d : OpV := (4, vidOf w21i 2, vidOf w21i 3, ByteArray.empty)
def w21k : OpV := (5, vidOf w21i 2, vid0, ByteArray.empty)
def w21l : List OpV := [w21a, w21b, w21b, w21b, w21c, w21d]
def w21p : PatV := (w21i, [], w21l)
def w21q : PatV := (w21j, [w21i], [w21k])
theorem w21_p : makeV18 w21i w21l = w21p ∧ makeN18 w21i w21l = 0 := ⟨by kernel_rfl, by kernel_rfl⟩
theorem w21_q : makeV18 w21j [w21k] = w21q ∧ makeN18 w21j [w21k] = 0 := ⟨by kernel_rfl, by kernel_rfl⟩
theorem w21_run : runG [] [w21p, w21q] = [w21p, w21q] := by kernel_rfl
theorem w21_len : (linesL [w21p, w21q] w21f).length = 3 := by kernel_rfl
theorem w21_steps : stepsN [w21p, w21q] w21f = [(0, 1), (1, 2)] := by kernel_rfl
def w21R (a b : Nat) : Bool := decide (a < b ∧ b ≤ 2)
theorem w21_rel {R : Nat → Nat → Bool} (h : ∀ a b, R a b = true ↔ ViaL (stepsN [w21p, w21q] w21f) a b) : R = w21R := by
  rw [w21_steps] at h
  have e : ∀ x y, (x, y) ∈ [(0, 1), (1, 2)] ↔ (x = 0 ∧ y = 1) ∨ (x = 1 ∧ y = 2) := fun x y => by simp
  have h1 : ∀ a b, ViaL [(0, 1), (1, 2)] a b → a < b ∧ b ≤ 2 := fun a b hv => by
    unfold ViaL at hv
    induction hv with
    | edge he => rcases (e _ _).1 he with ⟨rfl, rfl⟩ | ⟨rfl, rfl⟩ <;> decide
    | step he _ _ ih => rcases (e _ _).1 he with ⟨rfl, rfl⟩ | ⟨rfl, rfl⟩ <;> omega
  have h2 : ∀ a b, a < b ∧ b ≤ 2 → ViaL [(0, 1), (1, 2)] a b := fun a b hv => by
    have s1 : ViaL [(0, 1), (1, 2)] 0 1 := .edge (by simp)
    have s2 : ViaL [(0, 1), (1, 2)] 1 2 := .edge (by simp)
    have hc : (a = 0 ∧ b = 1) ∨ (a = 1 ∧ b = 2) ∨ (a = 0 ∧ b = 2) := by omega
    rcases hc with ⟨rfl, rfl⟩ | ⟨rfl, rfl⟩ | ⟨rfl, rfl⟩
    · exact s1
    · exact s2
    · exact s1.trans trivial s2
  funext a b
  rw [Bool.eq_iff_iff, h]
  unfold w21R
  rw [decide_eq_true_eq]
  exact ⟨h1 a b, h2 a b⟩
theorem w21_live : liveF (linesL [w21p, w21q] w21f) (ordR w21R 3) = [0, 2] := by kernel_rfl
theorem w21_firm : firmR w21R 3 1 = true := by kernel_rfl
theorem w21_bef : befR w21R 0 2 = true := by kernel_rfl
theorem w21_ord : (ordR w21R 3).length = 3 ∧ ∀ i ∈ ordR w21R 3, i < 3 := by
  have e : ordR w21R 3 = [0, 1, 2] := by kernel_rfl
  rw [e]
  exact ⟨rfl, by decide⟩
/-- two patches in a row of their own -/
theorem pats_two {w : World} {r s : List Value} {p q : PatV} (h : PatAt w r p) (h2 : PatAt w s q) : PatsAt (w.alloc (.cells [r, s].flatten.toArray 37)) (some ⟨w.heap.size, 0, none⟩) 2 [p, q] := by
  refine ⟨rfl, [r, s], ⟨rfl, fun k r' p' h1 h3 => ?_⟩, ?_⟩
  · match k, h1, h3 with
    | 0, h1, h3 =>
      obtain rfl : r = r' := by simpa using h1
      obtain rfl : p = p' := by simpa using h3
      exact h.ext (below_new _ _)
    | 1, h1, h3 =>
      obtain rfl : s = r' := by simpa using h1
      obtain rfl : q = p' := by simpa using h3
      exact h2.ext (below_new _ _)
    | _ + 2, h1, _ => simp at h1
  · exact sl_fresh w _ 37 4 2 _ (by simp [h.len4, h2.len4]) rfl
theorem w21_ops (w : World) : OpsAt (w.alloc (.cells [encO w21a, encO w21b, encO w21b, encO w21b, encO w21c, encO w21d].flatten.toArray 110)) (some ⟨w.heap.size, 0, none⟩) 6 w21l := ops_new w w21l (by simp [OpV.ok, w21l, w21a, w21b, w21c, w21d, maxLen])
theorem build_w21a (w : World) : (Instr.build 110 #[(0, .int .u8 1)]).run Tryz.prog w = .ok (.agg (encO w21a).toArray) w := by kernel_rfl
theorem build_w21b (w : World) : (Instr.build 110 #[(0, .int .u8 3), (1, .agg (encV w21f).toArray)]).run Tryz.prog w = .ok (.agg (encO w21b).toArray) w := by kernel_rfl
theorem build_w21c (w : World) : (Instr.build 110 #[(0, .int .u8 4), (1, .agg (encV (vidOf w21i 1)).toArray), (2, .agg (encV (vidOf w21i 2)).toArray)]).run Tryz.prog w = .ok (.agg (encO w21c).toArray) w := by kernel_rfl
theorem build_w21d (w : World) : (Instr.build 110 #[(0, .int .u8 4), (1, .agg (encV (vidOf w21i 2)).toArray), (2, .agg (encV (vidOf w21i 3)).toArray)]).run Tryz.prog w = .ok (.agg (encO w21d).toArray) w := by kernel_rfl
/-- the first patch's operations (48 cells) do not lie in a block of four -/
theorem w21_kept {w : World} {g : Nat} {t : TypeId} {z : Array Value} {r : List Value} (K : Blk w g t z) (hz : z.size = 4) (h : PatAt w r w21p) (cs : Array Value) : PatAt (w.setRow g cs) r w21p := by
  obtain ⟨⟨A, c, A', c', rfl, P, O1, O2, O3⟩, m1, m2⟩ := h
  refine ⟨⟨A, c, A', c', rfl, ⟨P.1, P.2.1, fun h => absurd h (by decide)⟩, O1, ⟨O2.1, fun hn => ?_⟩, O3⟩, m1, m2⟩
  obtain ⟨b, o, e, hb, R⟩ := O2.2 hn
  have hne : b ≠ g := fun hbg => by
    subst hbg
    have h31 := (R 31 (by decide)).symm.trans (K.cell (o + 31))
    rw [Array.getElem?_eq_none (by omega)] at h31
    have h : ((w21p.2.2.flatMap encO)[31]?).isSome = true := by kernel_rfl
    rw [h31] at h
    cases h
  exact ⟨b, o, e, by simpa using hb, fun j hj => (World.cell?_of_block (a := ⟨b, o + j, none⟩) (setRow_other w g b cs hne)).trans (R j hj)⟩
theorem blk_range21 {w : World} {g : Nat} {t : TypeId} {l : List Value} (h : Blk w g t l.toArray) : w.rangeAt g 0 l := fun j v hv => by
  rw [Nat.zero_add, h.cell j]; simpa using hv
theorem sl_two {w : World} : Sl (w.alloc (.cells #[.int .i64 0, .int .i64 2] 3)) (w.alloc (.cells #[.int .i64 0, .int .i64 2] 3)).heap.size 1 (some ⟨w.heap.size, 0, none⟩) 2 (encN [0, 2]) := sl_fresh w _ 3 1 2 (encN [0, 2]) rfl rfl
end Go.Proofs.YtfnhmbflmifhcaaGreat

/- The chapter's example of lines: walked. -/
namespace Go.Proofs.YtfnhmbflmifhcaaGreat
open Go.RowKit

theorem w21_before {w : World} {g : Nat} (h : RelAt w g 3 w21R) : Calls Tryz.prog 114 #[.pointer (some ⟨g, 0, none⟩), .int .i64 0, .int .i64 2] w (Ret w (.bool true)) := by
  have := before8_any h 0 2 (by decide) (by decide)
  rw [w21_bef] at this
  exact this
set_option maxRecDepth 100000 in
set_option maxHeartbeats 8000000 in
theorem works21 (w : World) : Calls Tryz.prog 43 #[] w (RetB w (.bool true)) := by
  have HM := Lib.hid (fun (u : World) (A : Option Addr) (h : OpsAt u A 6 w21l) => make18_any w21i w21l u A 6 6 (by omega) h)
  rw [w21_p.1, w21_p.2] at HM
  have HN := Lib.hid (fun (u : World) (A : Option Addr) (h : OpsAt u A 1 [w21k]) => make18_any w21j [w21k] u A 1 1 (by omega) h)
  rw [w21_q.1, w21_q.2] at HN
  have hcV : ∀ args u, (callFunc 62 args).run Tryz.prog u = .ok (.enter 62 args) u := enters_of Tryz.func62 (by kernel_rfl) rfl
  have hcM : ∀ args u, (callFunc 61 args).run Tryz.prog u = .ok (.enter 61 args) u := enters_of Tryz.func61 (by kernel_rfl) rfl
  have KA : Hid (Blk (w.alloc (.cells #[.int .u8 1, .int .u16 1] 33)) w.heap.size 33 (encP w21i).toArray) := Blk.new _ _ _
  have B1 : Hid (Below w.heap.size w (w.alloc (.cells #[.int .u8 1, .int .u16 1] 33))) := below_new _ _
  go_enter Tryz.func43, Tryz.ntmps43
  go_upto_region 2 with fail
  generalize (w.alloc (.cells #[.int .u8 1, .int .u16 1] 33)) = w2 at *
  obtain ⟨ga, hga⟩ : ∃ ga, ga = w.heap.size := ⟨_, rfl⟩
  simp only [← hga] at KA ⊢
  replace hga := Lib.hid hga
  go_wp2_with (refine wpList_load_row rfl 33 _ (by rfl) ga (by rfl) _ _ _ _ KA.out underPid rfl infoPid ?_)
  refine (vid18_any w21i 0 w2).mono ?_
  rintro e w25 ⟨rfl, b25⟩
  have KF : Hid (Blk ((w25.alloc (.cells #[.int .u8 0, .int .u16 0, .int .u8 0] 43)).setRow w25.heap.size (encV w21f).toArray) w25.heap.size 43 (encV w21f).toArray) := (Blk.new _ _ _).row _
  have BF : Hid (Below w25.heap.size w25 ((w25.alloc (.cells #[.int .u8 0, .int .u16 0, .int .u8 0] 43)).setRow w25.heap.size (encV w21f).toArray)) := below_setRow (below_new w25 _) (Nat.le_refl _) _
  go_upto_region 3 with (first
    | (refine wpList_alloced (allocVid20 _) ?_)
    | (refine wpList_store_row rfl 43 _ _ (by rfl) w25.heap.size (encV w21f).toArray (by rfl) (by rfl) _ _ (Blk.new _ _ _) infoVid rfl (encV_all20 _) ?_))
  have KA3 := Lib.hid (KA.out.ext (ext_trans b25 BF.out))
  have B3 := Lib.hid (B1.out.trans ((ext_trans b25 BF.out).mono B1.out.size))
  clear KA B1 BF b25
  generalize ((w25.alloc (.cells #[.int .u8 0, .int .u16 0, .int .u8 0] 43)).setRow w25.heap.size (encV w21f).toArray) = w3 at *
  obtain ⟨gf, hgf⟩ : ∃ g, g = w25.heap.size := ⟨_, rfl⟩
  simp only [← hgf] at KF ⊢
  clear hgf
  have RA := Lib.hid (fun (u : World) (hu : Below w3.heap.size w3 u) => blk_range21 (KA3.out.ext hu))
  have RF := Lib.hid (fun (u : World) (hu : Below w3.heap.size w3 u) => blk_range21 (KF.out.ext hu))
  clear KA3 KF
  simp only [Act.put, List.setIfInBounds_toArray, List.set_cons_zero, List.set_cons_succ]
  go_cut [3, 4] (fun e1 e2 wx => ∃ g A c A' c', e1 = .pointer (some ⟨g, 0, none⟩) ∧ e2 = .int .i64 0 ∧ Blk wx g 37 (patC w21p.1 A w21p.2.1.length c A' w21p.2.2.length c').toArray ∧ PatAt wx (patC w21p.1 A w21p.2.1.length c A' w21p.2.2.length c') w21p ∧ Below w3.heap.size w3 wx)
  case first =>
    refine wp_region_held (S := fun w' => Below w3.heap.size w3 w') mixedS ?_
    change wpAnyH _ _ _ _ _ _ _ _ w3.drew
    have B4 : Hid (Below w3.heap.size w3 w3.drew) := (Below.refl _ _).drew
    generalize w3.drew = w4 at B4 ⊢
    simp only [List.size_toArray, List.length_cons, List.length_nil]
    refine takeV (i := 0) (d := 12) (v := .agg (encP w21i).toArray) rfl (by kernel_rfl) (by kernel_rfl) (by kernel_rfl) (fun _ _ _ h => h) rfl (fun w' h => exMid rfl (RA.out w' h) underPid rfl infoPid) B4.out ?_
    simp only [Act.put, List.setIfInBounds_toArray, List.set_cons_zero, List.set_cons_succ]
    refine takeV (i := 1) (d := 13) (v := .agg (encO w21a).toArray) rfl (by kernel_rfl) (by kernel_rfl) (by kernel_rfl) (fun _ _ _ h => h) rfl (fun w' _ => exBuild (vs := #[(0, .int .u8 1)]) (by simp only [List.map_toArray, List.map_cons, List.map_nil]; rfl) (build_w21a w')) B4.out ?_
    simp only [Act.put, List.setIfInBounds_toArray, List.set_cons_zero, List.set_cons_succ]
    refine takeV (i := 2) (d := 14) (v := .agg (encV w21f).toArray) rfl (by kernel_rfl) (by kernel_rfl) (by kernel_rfl) (fun _ _ _ h => h) rfl (fun w' h => exMid rfl (RF.out w' h) underVid rfl infoVid) B4.out ?_
    simp only [Act.put, List.setIfInBounds_toArray, List.set_cons_zero, List.set_cons_succ]
    refine takeV (i := 3) (d := 15) (v := .agg (encO w21b).toArray) rfl (by kernel_rfl) (by kernel_rfl) (by kernel_rfl) (fun _ _ _ h => h) rfl (fun w' _ => exBuild (vs := #[(0, .int .u8 3), (1, .agg (encV w21f).toArray)]) (by simp only [List.map_toArray, List.map_cons, List.map_nil]; rfl) (build_w21b w')) B4.out ?_
    simp only [Act.put, List.setIfInBounds_toArray, List.set_cons_zero, List.set_cons_succ]
    refine takeV (i := 4) (d := 16) (v := .agg (encV w21f).toArray) rfl (by kernel_rfl) (by kernel_rfl) (by kernel_rfl) (fun _ _ _ h => h) rfl (fun w' h => exMid rfl (RF.out w' h) underVid rfl infoVid) B4.out ?_
    simp only [Act.put, List.setIfInBounds_toArray, List.set_cons_zero, List.set_cons_succ]
    refine takeV (i := 5) (d := 17) (v := .agg (encO w21b).toArray) rfl (by kernel_rfl) (by kernel_rfl) (by kernel_rfl) (fun _ _ _ h => h) rfl (fun w' _ => exBuild (vs := #[(0, .int .u8 3), (1, .agg (encV w21f).toArray)]) (by simp only [List.map_toArray, List.map_cons, List.map_nil]; rfl) (build_w21b w')) B4.out ?_
    simp only [Act.put, List.setIfInBounds_toArray, List.set_cons_zero, List.set_cons_succ]
    refine takeV (i := 6) (d := 18) (v := .agg (encV w21f).toArray) rfl (by kernel_rfl) (by kernel_rfl) (by kernel_rfl) (fun _ _ _ h => h) rfl (fun w' h => exMid rfl (RF.out w' h) underVid rfl infoVid) B4.out ?_
    simp only [Act.put, List.setIfInBounds_toArray, List.set_cons_zero, List.set_cons_succ]
    refine takeV (i := 7) (d := 19) (v := .agg (encO w21b).toArray) rfl (by kernel_rfl) (by kernel_rfl) (by kernel_rfl) (fun _ _ _ h => h) rfl (fun w' _ => exBuild (vs := #[(0, .int .u8 3), (1, .agg (encV w21f).toArray)]) (by simp only [List.map_toArray, List.map_cons, List.map_nil]; rfl) (build_w21b w')) B4.out ?_
    simp only [Act.put, List.setIfInBounds_toArray, List.set_cons_zero, List.set_cons_succ]
    refine takeV (i := 8) (d := 20) (v := .agg (encP w21i).toArray) rfl (by kernel_rfl) (by kernel_rfl) (by kernel_rfl) (fun _ _ _ h => h) rfl (fun w' h => exMid rfl (RA.out w' h) underPid rfl infoPid) B4.out ?_
    simp only [Act.put, List.setIfInBounds_toArray, List.set_cons_zero, List.set_cons_succ]
    refine takeV (i := 10) (d := 22) (v := .agg (encP w21i).toArray) rfl (by kernel_rfl) (by kernel_rfl) (by kernel_rfl) (fun _ _ _ h => h) rfl (fun w' h => exMid rfl (RA.out w' h) underPid rfl infoPid) B4.out ?_
    simp only [Act.put, List.setIfInBounds_toArray, List.set_cons_zero, List.set_cons_succ]
    refine takeV (i := 13) (d := 25) (v := .agg (encP w21i).toArray) rfl (by kernel_rfl) (by kernel_rfl) (by kernel_rfl) (fun _ _ _ h => h) rfl (fun w' h => exMid rfl (RA.out w' h) underPid rfl infoPid) B4.out ?_
    simp only [Act.put, List.setIfInBounds_toArray, List.set_cons_zero, List.set_cons_succ]
    refine takeV (i := 15) (d := 27) (v := .agg (encP w21i).toArray) rfl (by kernel_rfl) (by kernel_rfl) (by kernel_rfl) (fun _ _ _ h => h) rfl (fun w' h => exMid rfl (RA.out w' h) underPid rfl infoPid) B4.out ?_
    simp only [Act.put, List.setIfInBounds_toArray, List.set_cons_zero, List.set_cons_succ]
    refine wpAnyH_all (rs := [9, 23]) (by kernel_rfl) (by simp) ?_
    intro i hi
    simp only [List.mem_cons, List.not_mem_nil, or_false] at hi
    rcases hi with rfl | rfl
    · refine wpOp_of rfl rfl (wp_called (args := #[.agg (encP w21i).toArray, .int .i64 1]) hcV (by simp only [List.map_toArray, List.map_cons, List.map_nil]; rfl) (vid18_any w21i 1 w4) ?_)
      rintro e w_1 ⟨rfl, h_2⟩
      refine ⟨_, rfl, ext_trans B4.out h_2, ?_⟩
      simp only [Act.put, List.setIfInBounds_toArray, List.set_cons_zero, List.set_cons_succ]
      have B_3 := Lib.hid (ext_trans B4.out h_2)
      clear B4
      clear h_2
      refine wpAnyH_all (rs := [11, 23]) (by kernel_rfl) (by simp) ?_
      intro i hi
      simp only [List.mem_cons, List.not_mem_nil, or_false] at hi
      rcases hi with rfl | rfl
      · refine wpOp_of rfl rfl (wp_called (args := #[.agg (encP w21i).toArray, .int .i64 2]) hcV (by simp only [List.map_toArray, List.map_cons, List.map_nil]; rfl) (vid18_any w21i 2 w_1) ?_)
        rintro e w_4 ⟨rfl, h_5⟩
        refine ⟨_, rfl, ext_trans B_3.out h_5, ?_⟩
        simp only [Act.put, List.setIfInBounds_toArray, List.set_cons_zero, List.set_cons_succ]
        have B_6 := Lib.hid (ext_trans B_3.out h_5)
        clear B_3
        clear h_5
        refine takeV (i := 12) (d := 24) (v := .agg (encO w21c).toArray) rfl (by kernel_rfl) (by kernel_rfl) (by kernel_rfl) (fun _ _ _ h => h) rfl (fun w' _ => exBuild (vs := #[(0, .int .u8 4), (1, .agg (encV (vidOf w21i 1)).toArray), (2, .agg (encV (vidOf w21i 2)).toArray)]) (by simp only [List.map_toArray, List.map_cons, List.map_nil]; rfl) (build_w21c w')) B_6.out ?_
        simp only [Act.put, List.setIfInBounds_toArray, List.set_cons_zero, List.set_cons_succ]
        refine wpAnyH_all (rs := [14, 23]) (by kernel_rfl) (by simp) ?_
        intro i hi
        simp only [List.mem_cons, List.not_mem_nil, or_false] at hi
        rcases hi with rfl | rfl
        · refine wpOp_of rfl rfl (wp_called (args := #[.agg (encP w21i).toArray, .int .i64 2]) hcV (by simp only [List.map_toArray, List.map_cons, List.map_nil]; rfl) (vid18_any w21i 2 w_4) ?_)
          rintro e w_7 ⟨rfl, h_8⟩
          refine ⟨_, rfl, ext_trans B_6.out h_8, ?_⟩
          simp only [Act.put, List.setIfInBounds_toArray, List.set_cons_zero, List.set_cons_succ]
          have B_9 := Lib.hid (ext_trans B_6.out h_8)
          clear B_6
          clear h_8
          refine wpAnyH_all (rs := [16, 23]) (by kernel_rfl) (by simp) ?_
          intro i hi
          simp only [List.mem_cons, List.not_mem_nil, or_false] at hi
          rcases hi with rfl | rfl
          · refine wpOp_of rfl rfl (wp_called (args := #[.agg (encP w21i).toArray, .int .i64 3]) hcV (by simp only [List.map_toArray, List.map_cons, List.map_nil]; rfl) (vid18_any w21i 3 w_7) ?_)
            rintro e w_10 ⟨rfl, h_11⟩
            refine ⟨_, rfl, ext_trans B_9.out h_11, ?_⟩
            simp only [Act.put, List.setIfInBounds_toArray, List.set_cons_zero, List.set_cons_succ]
            have B_12 := Lib.hid (ext_trans B_9.out h_11)
            clear B_9
            clear h_11
            refine takeV (i := 17) (d := 29) (v := .agg (encO w21d).toArray) rfl (by kernel_rfl) (by kernel_rfl) (by kernel_rfl) (fun _ _ _ h => h) rfl (fun w' _ => exBuild (vs := #[(0, .int .u8 4), (1, .agg (encV (vidOf w21i 2)).toArray), (2, .agg (encV (vidOf w21i 3)).toArray)]) (by simp only [List.map_toArray, List.map_cons, List.map_nil]; rfl) (build_w21d w')) B_12.out ?_
            simp only [Act.put, List.setIfInBounds_toArray, List.set_cons_zero, List.set_cons_succ]
            refine wpAnyH_all (rs := [18, 23]) (by kernel_rfl) (by simp) ?_
            intro i hi
            simp only [List.mem_cons, List.not_mem_nil, or_false] at hi
            rcases hi with rfl | rfl
            · have P_15 := Lib.hid (w21_ops w_10)
              have h_16 : Below w_10.heap.size w_10 (w_10.alloc (.cells [encO w21a, encO w21b, encO w21b, encO w21b, encO w21c, encO w21d].flatten.toArray 110)) := below_new _ _
              refine wpOp_of rfl rfl (wp_lits opSl [encO w21a, encO w21b, encO w21b, encO w21b, encO w21c, encO w21d] rfl (by simp) (by simp [encO]) (by simp) (by simp only [List.map_toArray, List.map_cons, List.map_nil]; rfl) ?_)
              refine ⟨ext_trans B_12.out h_16, ?_⟩
              simp only [Act.put, List.setIfInBounds_toArray, List.set_cons_zero, List.set_cons_succ]
              generalize (w_10.alloc (.cells [encO w21a, encO w21b, encO w21b, encO w21b, encO w21c, encO w21d].flatten.toArray 110)) = w_13 at *
              have B_17 := Lib.hid (ext_trans B_12.out h_16)
              clear B_12
              clear h_16
              generalize w_10.heap.size = g_14 at *
              refine wpAnyH_all (rs := [19, 23]) (by kernel_rfl) (by simp) ?_
              intro i hi
              simp only [List.mem_cons, List.not_mem_nil, or_false] at hi
              rcases hi with rfl | rfl
              · refine wpOp_of rfl rfl (wp_called (args := #[.agg (encP w21i).toArray, .slice (some ⟨g_14, 0, none⟩) 6 6]) hcM (by simp only [List.map_toArray, List.map_cons, List.map_nil]; rfl) (HM.out w_13 _ P_15.out) ?_)
                rintro e w_18 ⟨_, rfl, p_21, h_19⟩
                have P_20 := Lib.hid p_21
                obtain ⟨⟨A_22, c_23, A_24, c_25, rfl, _, _⟩, _, _⟩ := p_21
                refine ⟨_, rfl, ext_trans B_17.out h_19, ?_⟩
                simp only [Act.put, List.setIfInBounds_toArray, List.set_cons_zero, List.set_cons_succ]
                have B_26 := Lib.hid (ext_trans B_17.out h_19)
                have F_27 := Lib.hid (P_15.out.ext h_19)
                clear B_17 P_15
                clear h_19
                refine takeV (i := 20) (d := 11) (v := .tuple #[.agg (patC w21p.1 A_22 w21p.2.1.length c_23 A_24 w21p.2.2.length c_25).toArray, .int .i64 0]) rfl (by kernel_rfl) (by kernel_rfl) (by kernel_rfl) (fun _ _ _ h => h) rfl (fun _ _ => exMove (v := .tuple #[.agg (patC w21p.1 A_22 w21p.2.1.length c_23 A_24 w21p.2.2.length c_25).toArray, .int .i64 0]) rfl) B_26.out ?_
                simp only [Act.put, List.setIfInBounds_toArray, List.set_cons_zero, List.set_cons_succ]
                refine takeV (i := 21) (d := 32) (v := .agg (patC w21p.1 A_22 w21p.2.1.length c_23 A_24 w21p.2.2.length c_25).toArray) rfl (by kernel_rfl) (by kernel_rfl) (by kernel_rfl) (fun _ _ _ h => h) rfl (fun _ _ => exExtract (v := .agg (patC w21p.1 A_22 w21p.2.1.length c_23 A_24 w21p.2.2.length c_25).toArray) rfl rfl) B_26.out ?_
                simp only [Act.put, List.setIfInBounds_toArray, List.set_cons_zero, List.set_cons_succ]
                refine takeV (i := 22) (d := 33) (v := .int .i64 0) rfl (by kernel_rfl) (by kernel_rfl) (by kernel_rfl) (fun _ _ _ h => h) rfl (fun _ _ => exExtract (v := .int .i64 0) rfl rfl) B_26.out ?_
                simp only [Act.put, List.setIfInBounds_toArray, List.set_cons_zero, List.set_cons_succ]
                refine wpAnyH_all (rs := [23]) (by kernel_rfl) (by simp) ?_
                intro i hi
                simp only [List.mem_cons, List.not_mem_nil, or_false] at hi
                subst hi
                refine wpOp_of rfl rfl (wp_alloced (allocPat _) ?_)
                refine ⟨ext_trans B_26.out (below_new _ _), ?_⟩
                simp only [Act.put, List.setIfInBounds_toArray, List.set_cons_zero, List.set_cons_succ]
                have K_28 : Hid (Blk (w_18.alloc (.cells #[.int .u8 0, .int .u16 0, .slice none 0 0, .slice none 0 0] 37)) w_18.heap.size 37 #[.int .u8 0, .int .u16 0, .slice none 0 0, .slice none 0 0]) := Blk.new _ _ _
                have h_29 : Below w_18.heap.size w_18 (w_18.alloc (.cells #[.int .u8 0, .int .u16 0, .slice none 0 0, .slice none 0 0] 37)) := below_new _ _
                have gz_31 : Hid (w3.heap.size ≤ w_18.heap.size) := B_26.out.size
                generalize (w_18.alloc (.cells #[.int .u8 0, .int .u16 0, .slice none 0 0, .slice none 0 0] 37)) = w_30 at *
                have B_33 := Lib.hid (ext_trans B_26.out h_29)
                have F_34 := Lib.hid (F_27.out.ext h_29)
                have F_35 := Lib.hid (P_20.out.ext h_29)
                clear B_26 F_27 P_20
                clear h_29
                generalize w_18.heap.size = g_32 at *
                refine wpAnyH_all (rs := [24]) (by kernel_rfl) (by simp) ?_
                intro i hi
                simp only [List.mem_cons, List.not_mem_nil, or_false] at hi
                subst hi
                refine wpOp_of rfl rfl (wp_stored (cs := (patC w21p.1 A_22 w21p.2.1.length c_23 A_24 w21p.2.2.length c_25).toArray) rfl rfl K_28.out (show (Tryz.prog.info? 37).map (·.size) = some ((patC w21p.1 A_22 w21p.2.1.length c_23 A_24 w21p.2.2.length c_25).toArray : Array Value).size from infoPat) rfl patC_one ?_)
                have K_36 := Lib.hid (K_28.out.row (patC w21p.1 A_22 w21p.2.1.length c_23 A_24 w21p.2.2.length c_25).toArray)
                have M_38 := Lib.hid (w21_kept K_28.out rfl F_35.out (patC w21p.1 A_22 w21p.2.1.length c_23 A_24 w21p.2.2.length c_25).toArray)
                have B_37 := Lib.hid (below_setRow B_33.out gz_31.out (patC w21p.1 A_22 w21p.2.1.length c_23 A_24 w21p.2.2.length c_25).toArray)
                refine ⟨B_37.out, ?_⟩
                clear B_33 F_34 F_35 K_28
                generalize (w_30.setRow g_32 (patC w21p.1 A_22 w21p.2.1.length c_23 A_24 w21p.2.2.length c_25).toArray) = w_39 at *
                refine takeV (i := 25) (d := 4) (v := .int .i64 0) rfl (by kernel_rfl) (by kernel_rfl) (by kernel_rfl) (fun _ _ _ h => h) rfl (fun _ _ => exAssign (v := .int .i64 0) rfl) B_37.out ?_
                simp only [Act.put, List.setIfInBounds_toArray, List.set_cons_zero, List.set_cons_succ]
                refine wpAnyH_done (by kernel_rfl) ?_ _
                go_wp2_with fail
                go_meet
                case rel => exact ⟨g_32, _, _, _, _, rfl, rfl, K_36.out, M_38.out, B_37.out⟩
              · refine wpOp_of rfl rfl (wp_alloced (allocPat _) ?_)
                refine ⟨ext_trans B_17.out (below_new _ _), ?_⟩
                simp only [Act.put, List.setIfInBounds_toArray, List.set_cons_zero, List.set_cons_succ]
                have K_40 : Hid (Blk (w_13.alloc (.cells #[.int .u8 0, .int .u16 0, .slice none 0 0, .slice none 0 0] 37)) w_13.heap.size 37 #[.int .u8 0, .int .u16 0, .slice none 0 0, .slice none 0 0]) := Blk.new _ _ _
                have h_41 : Below w_13.heap.size w_13 (w_13.alloc (.cells #[.int .u8 0, .int .u16 0, .slice none 0 0, .slice none 0 0] 37)) := below_new _ _
                have gz_43 : Hid (w3.heap.size ≤ w_13.heap.size) := B_17.out.size
                generalize (w_13.alloc (.cells #[.int .u8 0, .int .u16 0, .slice none 0 0, .slice none 0 0] 37)) = w_42 at *
                have B_45 := Lib.hid (ext_trans B_17.out h_41)
                have F_46 := Lib.hid (P_15.out.ext h_41)
                clear B_17 P_15
                clear h_41
                generalize w_13.heap.size = g_44 at *
                refine wpAnyH_all (rs := [19]) (by kernel_rfl) (by simp) ?_
                intro i hi
                simp only [List.mem_cons, List.not_mem_nil, or_false] at hi
                subst hi
                refine wpOp_of rfl rfl (wp_called (args := #[.agg (encP w21i).toArray, .slice (some ⟨g_14, 0, none⟩) 6 6]) hcM (by simp only [List.map_toArray, List.map_cons, List.map_nil]; rfl) (HM.out w_42 _ F_46.out) ?_)
                rintro e w_47 ⟨_, rfl, p_50, h_48⟩
                have P_49 := Lib.hid p_50
                obtain ⟨⟨A_51, c_52, A_53, c_54, rfl, _, _⟩, _, _⟩ := p_50
                refine ⟨_, rfl, ext_trans B_45.out h_48, ?_⟩
                simp only [Act.put, List.setIfInBounds_toArray, List.set_cons_zero, List.set_cons_succ]
                have B_55 := Lib.hid (ext_trans B_45.out h_48)
                have F_56 := Lib.hid (F_46.out.ext h_48)
                have F_57 := Lib.hid (K_40.out.ext h_48)
                clear B_45 F_46 K_40
                clear h_48
                refine takeV (i := 20) (d := 11) (v := .tuple #[.agg (patC w21p.1 A_51 w21p.2.1.length c_52 A_53 w21p.2.2.length c_54).toArray, .int .i64 0]) rfl (by kernel_rfl) (by kernel_rfl) (by kernel_rfl) (fun _ _ _ h => h) rfl (fun _ _ => exMove (v := .tuple #[.agg (patC w21p.1 A_51 w21p.2.1.length c_52 A_53 w21p.2.2.length c_54).toArray, .int .i64 0]) rfl) B_55.out ?_
                simp only [Act.put, List.setIfInBounds_toArray, List.set_cons_zero, List.set_cons_succ]
                refine takeV (i := 21) (d := 32) (v := .agg (patC w21p.1 A_51 w21p.2.1.length c_52 A_53 w21p.2.2.length c_54).toArray) rfl (by kernel_rfl) (by kernel_rfl) (by kernel_rfl) (fun _ _ _ h => h) rfl (fun _ _ => exExtract (v := .agg (patC w21p.1 A_51 w21p.2.1.length c_52 A_53 w21p.2.2.length c_54).toArray) rfl rfl) B_55.out ?_
                simp only [Act.put, List.setIfInBounds_toArray, List.set_cons_zero, List.set_cons_succ]
                refine takeV (i := 22) (d := 33) (v := .int .i64 0) rfl (by kernel_rfl) (by kernel_rfl) (by kernel_rfl) (fun _ _ _ h => h) rfl (fun _ _ => exExtract (v := .int .i64 0) rfl rfl) B_55.out ?_
                simp only [Act.put, List.setIfInBounds_toArray, List.set_cons_zero, List.set_cons_succ]
                refine wpAnyH_all (rs := [24]) (by kernel_rfl) (by simp) ?_
                intro i hi
                simp only [List.mem_cons, List.not_mem_nil, or_false] at hi
                subst hi
                refine wpOp_of rfl rfl (wp_stored (cs := (patC w21p.1 A_51 w21p.2.1.length c_52 A_53 w21p.2.2.length c_54).toArray) rfl rfl F_57.out (show (Tryz.prog.info? 37).map (·.size) = some ((patC w21p.1 A_51 w21p.2.1.length c_52 A_53 w21p.2.2.length c_54).toArray : Array Value).size from infoPat) rfl patC_one ?_)
                have K_58 := Lib.hid (F_57.out.row (patC w21p.1 A_51 w21p.2.1.length c_52 A_53 w21p.2.2.length c_54).toArray)
                have M_60 := Lib.hid (w21_kept F_57.out rfl P_49.out (patC w21p.1 A_51 w21p.2.1.length c_52 A_53 w21p.2.2.length c_54).toArray)
                have B_59 := Lib.hid (below_setRow B_55.out gz_43.out (patC w21p.1 A_51 w21p.2.1.length c_52 A_53 w21p.2.2.length c_54).toArray)
                refine ⟨B_59.out, ?_⟩
                clear B_55 F_56 F_57 P_49
                generalize (w_47.setRow g_44 (patC w21p.1 A_51 w21p.2.1.length c_52 A_53 w21p.2.2.length c_54).toArray) = w_61 at *
                refine takeV (i := 25) (d := 4) (v := .int .i64 0) rfl (by kernel_rfl) (by kernel_rfl) (by kernel_rfl) (fun _ _ _ h => h) rfl (fun _ _ => exAssign (v := .int .i64 0) rfl) B_59.out ?_
                simp only [Act.put, List.setIfInBounds_toArray, List.set_cons_zero, List.set_cons_succ]
                refine wpAnyH_done (by kernel_rfl) ?_ _
                go_wp2_with fail
                go_meet
                case rel => exact ⟨g_44, _, _, _, _, rfl, rfl, K_58.out, M_60.out, B_59.out⟩
            · refine wpOp_of rfl rfl (wp_alloced (allocPat _) ?_)
              refine ⟨ext_trans B_12.out (below_new _ _), ?_⟩
              simp only [Act.put, List.setIfInBounds_toArray, List.set_cons_zero, List.set_cons_succ]
              have K_62 : Hid (Blk (w_10.alloc (.cells #[.int .u8 0, .int .u16 0, .slice none 0 0, .slice none 0 0] 37)) w_10.heap.size 37 #[.int .u8 0, .int .u16 0, .slice none 0 0, .slice none 0 0]) := Blk.new _ _ _
              have h_63 : Below w_10.heap.size w_10 (w_10.alloc (.cells #[.int .u8 0, .int .u16 0, .slice none 0 0, .slice none 0 0] 37)) := below_new _ _
              have gz_65 : Hid (w3.heap.size ≤ w_10.heap.size) := B_12.out.size
              generalize (w_10.alloc (.cells #[.int .u8 0, .int .u16 0, .slice none 0 0, .slice none 0 0] 37)) = w_64 at *
              have B_67 := Lib.hid (ext_trans B_12.out h_63)
              clear B_12
              clear h_63
              generalize w_10.heap.size = g_66 at *
              refine wpAnyH_all (rs := [18]) (by kernel_rfl) (by simp) ?_
              intro i hi
              simp only [List.mem_cons, List.not_mem_nil, or_false] at hi
              subst hi
              have P_70 := Lib.hid (w21_ops w_64)
              have h_71 : Below w_64.heap.size w_64 (w_64.alloc (.cells [encO w21a, encO w21b, encO w21b, encO w21b, encO w21c, encO w21d].flatten.toArray 110)) := below_new _ _
              refine wpOp_of rfl rfl (wp_lits opSl [encO w21a, encO w21b, encO w21b, encO w21b, encO w21c, encO w21d] rfl (by simp) (by simp [encO]) (by simp) (by simp only [List.map_toArray, List.map_cons, List.map_nil]; rfl) ?_)
              refine ⟨ext_trans B_67.out h_71, ?_⟩
              simp only [Act.put, List.setIfInBounds_toArray, List.set_cons_zero, List.set_cons_succ]
              generalize (w_64.alloc (.cells [encO w21a, encO w21b, encO w21b, encO w21b, encO w21c, encO w21d].flatten.toArray 110)) = w_68 at *
              have B_72 := Lib.hid (ext_trans B_67.out h_71)
              have F_73 := Lib.hid (K_62.out.ext h_71)
              clear B_67 K_62
              clear h_71
              generalize w_64.heap.size = g_69 at *
              refine wpAnyH_all (rs := [19]) (by kernel_rfl) (by simp) ?_
              intro i hi
              simp only [List.mem_cons, List.not_mem_nil, or_false] at hi
              subst hi
              refine wpOp_of rfl rfl (wp_called (args := #[.agg (encP w21i).toArray, .slice (some ⟨g_69, 0, none⟩) 6 6]) hcM (by simp only [List.map_toArray, List.map_cons, List.map_nil]; rfl) (HM.out w_68 _ P_70.out) ?_)
              rintro e w_74 ⟨_, rfl, p_77, h_75⟩
              have P_76 := Lib.hid p_77
              obtain ⟨⟨A_78, c_79, A_80, c_81, rfl, _, _⟩, _, _⟩ := p_77
              refine ⟨_, rfl, ext_trans B_72.out h_75, ?_⟩
              simp only [Act.put, List.setIfInBounds_toArray, List.set_cons_zero, List.set_cons_succ]
              have B_82 := Lib.hid (ext_trans B_72.out h_75)
              have F_83 := Lib.hid (F_73.out.ext h_75)
              have F_84 := Lib.hid (P_70.out.ext h_75)
              clear B_72 F_73 P_70
              clear h_75
              refine takeV (i := 20) (d := 11) (v := .tuple #[.agg (patC w21p.1 A_78 w21p.2.1.length c_79 A_80 w21p.2.2.length c_81).toArray, .int .i64 0]) rfl (by kernel_rfl) (by kernel_rfl) (by kernel_rfl) (fun _ _ _ h => h) rfl (fun _ _ => exMove (v := .tuple #[.agg (patC w21p.1 A_78 w21p.2.1.length c_79 A_80 w21p.2.2.length c_81).toArray, .int .i64 0]) rfl) B_82.out ?_
              simp only [Act.put, List.setIfInBounds_toArray, List.set_cons_zero, List.set_cons_succ]
              refine takeV (i := 21) (d := 32) (v := .agg (patC w21p.1 A_78 w21p.2.1.length c_79 A_80 w21p.2.2.length c_81).toArray) rfl (by kernel_rfl) (by kernel_rfl) (by kernel_rfl) (fun _ _ _ h => h) rfl (fun _ _ => exExtract (v := .agg (patC w21p.1 A_78 w21p.2.1.length c_79 A_80 w21p.2.2.length c_81).toArray) rfl rfl) B_82.out ?_
              simp only [Act.put, List.setIfInBounds_toArray, List.set_cons_zero, List.set_cons_succ]
              refine takeV (i := 22) (d := 33) (v := .int .i64 0) rfl (by kernel_rfl) (by kernel_rfl) (by kernel_rfl) (fun _ _ _ h => h) rfl (fun _ _ => exExtract (v := .int .i64 0) rfl rfl) B_82.out ?_
              simp only [Act.put, List.setIfInBounds_toArray, List.set_cons_zero, List.set_cons_succ]
              refine wpAnyH_all (rs := [24]) (by kernel_rfl) (by simp) ?_
              intro i hi
              simp only [List.mem_cons, List.not_mem_nil, or_false] at hi
              subst hi
              refine wpOp_of rfl rfl (wp_stored (cs := (patC w21p.1 A_78 w21p.2.1.length c_79 A_80 w21p.2.2.length c_81).toArray) rfl rfl F_83.out (show (Tryz.prog.info? 37).map (·.size) = some ((patC w21p.1 A_78 w21p.2.1.length c_79 A_80 w21p.2.2.length c_81).toArray : Array Value).size from infoPat) rfl patC_one ?_)
              have K_85 := Lib.hid (F_83.out.row (patC w21p.1 A_78 w21p.2.1.length c_79 A_80 w21p.2.2.length c_81).toArray)
              have M_87 := Lib.hid (w21_kept F_83.out rfl P_76.out (patC w21p.1 A_78 w21p.2.1.length c_79 A_80 w21p.2.2.length c_81).toArray)
              have B_86 := Lib.hid (below_setRow B_82.out gz_65.out (patC w21p.1 A_78 w21p.2.1.length c_79 A_80 w21p.2.2.length c_81).toArray)
              refine ⟨B_86.out, ?_⟩
              clear B_82 F_83 F_84 P_76
              generalize (w_74.setRow g_66 (patC w21p.1 A_78 w21p.2.1.length c_79 A_80 w21p.2.2.length c_81).toArray) = w_88 at *
              refine takeV (i := 25) (d := 4) (v := .int .i64 0) rfl (by kernel_rfl) (by kernel_rfl) (by kernel_rfl) (fun _ _ _ h => h) rfl (fun _ _ => exAssign (v := .int .i64 0) rfl) B_86.out ?_
              simp only [Act.put, List.setIfInBounds_toArray, List.set_cons_zero, List.set_cons_succ]
              refine wpAnyH_done (by kernel_rfl) ?_ _
              go_wp2_with fail
              go_meet
              case rel => exact ⟨g_66, _, _, _, _, rfl, rfl, K_85.out, M_87.out, B_86.out⟩
          · refine wpOp_of rfl rfl (wp_alloced (allocPat _) ?_)
            refine ⟨ext_trans B_9.out (below_new _ _), ?_⟩
            simp only [Act.put, List.setIfInBounds_toArray, List.set_cons_zero, List.set_cons_succ]
            have K_89 : Hid (Blk (w_7.alloc (.cells #[.int .u8 0, .int .u16 0, .slice none 0 0, .slice none 0 0] 37)) w_7.heap.size 37 #[.int .u8 0, .int .u16 0, .slice none 0 0, .slice none 0 0]) := Blk.new _ _ _
            have h_90 : Below w_7.heap.size w_7 (w_7.alloc (.cells #[.int .u8 0, .int .u16 0, .slice none 0 0, .slice none 0 0] 37)) := below_new _ _
            have gz_92 : Hid (w3.heap.size ≤ w_7.heap.size) := B_9.out.size
            generalize (w_7.alloc (.cells #[.int .u8 0, .int .u16 0, .slice none 0 0, .slice none 0 0] 37)) = w_91 at *
            have B_94 := Lib.hid (ext_trans B_9.out h_90)
            clear B_9
            clear h_90
            generalize w_7.heap.size = g_93 at *
            refine wpAnyH_all (rs := [16]) (by kernel_rfl) (by simp) ?_
            intro i hi
            simp only [List.mem_cons, List.not_mem_nil, or_false] at hi
            subst hi
            refine wpOp_of rfl rfl (wp_called (args := #[.agg (encP w21i).toArray, .int .i64 3]) hcV (by simp only [List.map_toArray, List.map_cons, List.map_nil]; rfl) (vid18_any w21i 3 w_91) ?_)
            rintro e w_95 ⟨rfl, h_96⟩
            refine ⟨_, rfl, ext_trans B_94.out h_96, ?_⟩
            simp only [Act.put, List.setIfInBounds_toArray, List.set_cons_zero, List.set_cons_succ]
            have B_97 := Lib.hid (ext_trans B_94.out h_96)
            have F_98 := Lib.hid (K_89.out.ext h_96)
            clear B_94 K_89
            clear h_96
            refine takeV (i := 17) (d := 29) (v := .agg (encO w21d).toArray) rfl (by kernel_rfl) (by kernel_rfl) (by kernel_rfl) (fun _ _ _ h => h) rfl (fun w' _ => exBuild (vs := #[(0, .int .u8 4), (1, .agg (encV (vidOf w21i 2)).toArray), (2, .agg (encV (vidOf w21i 3)).toArray)]) (by simp only [List.map_toArray, List.map_cons, List.map_nil]; rfl) (build_w21d w')) B_97.out ?_
            simp only [Act.put, List.setIfInBounds_toArray, List.set_cons_zero, List.set_cons_succ]
            refine wpAnyH_all (rs := [18]) (by kernel_rfl) (by simp) ?_
            intro i hi
            simp only [List.mem_cons, List.not_mem_nil, or_false] at hi
            subst hi
            have P_101 := Lib.hid (w21_ops w_95)
            have h_102 : Below w_95.heap.size w_95 (w_95.alloc (.cells [encO w21a, encO w21b, encO w21b, encO w21b, encO w21c, encO w21d].flatten.toArray 110)) := below_new _ _
            refine wpOp_of rfl rfl (wp_lits opSl [encO w21a, encO w21b, encO w21b, encO w21b, encO w21c, encO w21d] rfl (by simp) (by simp [encO]) (by simp) (by simp only [List.map_toArray, List.map_cons, List.map_nil]; rfl) ?_)
            refine ⟨ext_trans B_97.out h_102, ?_⟩
            simp only [Act.put, List.setIfInBounds_toArray, List.set_cons_zero, List.set_cons_succ]
            generalize (w_95.alloc (.cells [encO w21a, encO w21b, encO w21b, encO w21b, encO w21c, encO w21d].flatten.toArray 110)) = w_99 at *
            have B_103 := Lib.hid (ext_trans B_97.out h_102)
            have F_104 := Lib.hid (F_98.out.ext h_102)
            clear B_97 F_98
            clear h_102
            generalize w_95.heap.size = g_100 at *
            refine wpAnyH_all (rs := [19]) (by kernel_rfl) (by simp) ?_
            intro i hi
            simp only [List.mem_cons, List.not_mem_nil, or_false] at hi
            subst hi
            refine wpOp_of rfl rfl (wp_called (args := #[.agg (encP w21i).toArray, .slice (some ⟨g_100, 0, none⟩) 6 6]) hcM (by simp only [List.map_toArray, List.map_cons, List.map_nil]; rfl) (HM.out w_99 _ P_101.out) ?_)
            rintro e w_105 ⟨_, rfl, p_108, h_106⟩
            have P_107 := Lib.hid p_108
            obtain ⟨⟨A_109, c_110, A_111, c_112, rfl, _, _⟩, _, _⟩ := p_108
            refine ⟨_, rfl, ext_trans B_103.out h_106, ?_⟩
            simp only [Act.put, List.setIfInBounds_toArray, List.set_cons_zero, List.set_cons_succ]
            have B_113 := Lib.hid (ext_trans B_103.out h_106)
            have F_114 := Lib.hid (F_104.out.ext h_106)
            have F_115 := Lib.hid (P_101.out.ext h_106)
            clear B_103 F_104 P_101
            clear h_106
            refine takeV (i := 20) (d := 11) (v := .tuple #[.agg (patC w21p.1 A_109 w21p.2.1.length c_110 A_111 w21p.2.2.length c_112).toArray, .int .i64 0]) rfl (by kernel_rfl) (by kernel_rfl) (by kernel_rfl) (fun _ _ _ h => h) rfl (fun _ _ => exMove (v := .tuple #[.agg (patC w21p.1 A_109 w21p.2.1.length c_110 A_111 w21p.2.2.length c_112).toArray, .int .i64 0]) rfl) B_113.out ?_
            simp only [Act.put, List.setIfInBounds_toArray, List.set_cons_zero, List.set_cons_succ]
            refine takeV (i := 21) (d := 32) (v := .agg (patC w21p.1 A_109 w21p.2.1.length c_110 A_111 w21p.2.2.length c_112).toArray) rfl (by kernel_rfl) (by kernel_rfl) (by kernel_rfl) (fun _ _ _ h => h) rfl (fun _ _ => exExtract (v := .agg (patC w21p.1 A_109 w21p.2.1.length c_110 A_111 w21p.2.2.length c_112).toArray) rfl rfl) B_113.out ?_
            simp only [Act.put, List.setIfInBounds_toArray, List.set_cons_zero, List.set_cons_succ]
            refine takeV (i := 22) (d := 33) (v := .int .i64 0) rfl (by kernel_rfl) (by kernel_rfl) (by kernel_rfl) (fun _ _ _ h => h) rfl (fun _ _ => exExtract (v := .int .i64 0) rfl rfl) B_113.out ?_
            simp only [Act.put, List.setIfInBounds_toArray, List.set_cons_zero, List.set_cons_succ]
            refine wpAnyH_all (rs := [24]) (by kernel_rfl) (by simp) ?_
            intro i hi
            simp only [List.mem_cons, List.not_mem_nil, or_false] at hi
            subst hi
            refine wpOp_of rfl rfl (wp_stored (cs := (patC w21p.1 A_109 w21p.2.1.length c_110 A_111 w21p.2.2.length c_112).toArray) rfl rfl F_114.out (show (Tryz.prog.info? 37).map (·.size) = some ((patC w21p.1 A_109 w21p.2.1.length c_110 A_111 w21p.2.2.length c_112).toArray : Array Value).size from infoPat) rfl patC_one ?_)
            have K_116 := Lib.hid (F_114.out.row (patC w21p.1 A_109 w21p.2.1.length c_110 A_111 w21p.2.2.length c_112).toArray)
            have M_118 := Lib.hid (w21_kept F_114.out rfl P_107.out (patC w21p.1 A_109 w21p.2.1.length c_110 A_111 w21p.2.2.length c_112).toArray)
            have B_117 := Lib.hid (below_setRow B_113.out gz_92.out (patC w21p.1 A_109 w21p.2.1.length c_110 A_111 w21p.2.2.length c_112).toArray)
            refine ⟨B_117.out, ?_⟩
            clear B_113 F_114 F_115 P_107
            generalize (w_105.setRow g_93 (patC w21p.1 A_109 w21p.2.1.length c_110 A_111 w21p.2.2.length c_112).toArray) = w_119 at *
            refine takeV (i := 25) (d := 4) (v := .int .i64 0) rfl (by kernel_rfl) (by kernel_rfl) (by kernel_rfl) (fun _ _ _ h => h) rfl (fun _ _ => exAssign (v := .int .i64 0) rfl) B_117.out ?_
            simp only [Act.put, List.setIfInBounds_toArray, List.set_cons_zero, List.set_cons_succ]
            refine wpAnyH_done (by kernel_rfl) ?_ _
            go_wp2_with fail
            go_meet
            case rel => exact ⟨g_93, _, _, _, _, rfl, rfl, K_116.out, M_118.out, B_117.out⟩
        · refine wpOp_of rfl rfl (wp_alloced (allocPat _) ?_)
          refine ⟨ext_trans B_6.out (below_new _ _), ?_⟩
          simp only [Act.put, List.setIfInBounds_toArray, List.set_cons_zero, List.set_cons_succ]
          have K_120 : Hid (Blk (w_4.alloc (.cells #[.int .u8 0, .int .u16 0, .slice none 0 0, .slice none 0 0] 37)) w_4.heap.size 37 #[.int .u8 0, .int .u16 0, .slice none 0 0, .slice none 0 0]) := Blk.new _ _ _
          have h_121 : Below w_4.heap.size w_4 (w_4.alloc (.cells #[.int .u8 0, .int .u16 0, .slice none 0 0, .slice none 0 0] 37)) := below_new _ _
          have gz_123 : Hid (w3.heap.size ≤ w_4.heap.size) := B_6.out.size
          generalize (w_4.alloc (.cells #[.int .u8 0, .int .u16 0, .slice none 0 0, .slice none 0 0] 37)) = w_122 at *
          have B_125 := Lib.hid (ext_trans B_6.out h_121)
          clear B_6
          clear h_121
          generalize w_4.heap.size = g_124 at *
          refine wpAnyH_all (rs := [14]) (by kernel_rfl) (by simp) ?_
          intro i hi
          simp only [List.mem_cons, List.not_mem_nil, or_false] at hi
          subst hi
          refine wpOp_of rfl rfl (wp_called (args := #[.agg (encP w21i).toArray, .int .i64 2]) hcV (by simp only [List.map_toArray, List.map_cons, List.map_nil]; rfl) (vid18_any w21i 2 w_122) ?_)
          rintro e w_126 ⟨rfl, h_127⟩
          refine ⟨_, rfl, ext_trans B_125.out h_127, ?_⟩
          simp only [Act.put, List.setIfInBounds_toArray, List.set_cons_zero, List.set_cons_succ]
          have B_128 := Lib.hid (ext_trans B_125.out h_127)
          have F_129 := Lib.hid (K_120.out.ext h_127)
          clear B_125 K_120
          clear h_127
          refine wpAnyH_all (rs := [16]) (by kernel_rfl) (by simp) ?_
          intro i hi
          simp only [List.mem_cons, List.not_mem_nil, or_false] at hi
          subst hi
          refine wpOp_of rfl rfl (wp_called (args := #[.agg (encP w21i).toArray, .int .i64 3]) hcV (by simp only [List.map_toArray, List.map_cons, List.map_nil]; rfl) (vid18_any w21i 3 w_126) ?_)
          rintro e w_130 ⟨rfl, h_131⟩
          refine ⟨_, rfl, ext_trans B_128.out h_131, ?_⟩
          simp only [Act.put, List.setIfInBounds_toArray, List.set_cons_zero, List.set_cons_succ]
          have B_132 := Lib.hid (ext_trans B_128.out h_131)
          have F_133 := Lib.hid (F_129.out.ext h_131)
          clear B_128 F_129
          clear h_131
          refine takeV (i := 17) (d := 29) (v := .agg (encO w21d).toArray) rfl (by kernel_rfl) (by kernel_rfl) (by kernel_rfl) (fun _ _ _ h => h) rfl (fun w' _ => exBuild (vs := #[(0, .int .u8 4), (1, .agg (encV (vidOf w21i 2)).toArray), (2, .agg (encV (vidOf w21i 3)).toArray)]) (by simp only [List.map_toArray, List.map_cons, List.map_nil]; rfl) (build_w21d w')) B_132.out ?_
          simp only [Act.put, List.setIfInBounds_toArray, List.set_cons_zero, List.set_cons_succ]
          refine wpAnyH_all (rs := [18]) (by kernel_rfl) (by simp) ?_
          intro i hi
          simp only [List.mem_cons, List.not_mem_nil, or_false] at hi
          subst hi
          have P_136 := Lib.hid (w21_ops w_130)
          have h_137 : Below w_130.heap.size w_130 (w_130.alloc (.cells [encO w21a, encO w21b, encO w21b, encO w21b, encO w21c, encO w21d].flatten.toArray 110)) := below_new _ _
          refine wpOp_of rfl rfl (wp_lits opSl [encO w21a, encO w21b, encO w21b, encO w21b, encO w21c, encO w21d] rfl (by simp) (by simp [encO]) (by simp) (by simp only [List.map_toArray, List.map_cons, List.map_nil]; rfl) ?_)
          refine ⟨ext_trans B_132.out h_137, ?_⟩
          simp only [Act.put, List.setIfInBounds_toArray, List.set_cons_zero, List.set_cons_succ]
          generalize (w_130.alloc (.cells [encO w21a, encO w21b, encO w21b, encO w21b, encO w21c, encO w21d].flatten.toArray 110)) = w_134 at *
          have B_138 := Lib.hid (ext_trans B_132.out h_137)
          have F_139 := Lib.hid (F_133.out.ext h_137)
          clear B_132 F_133
          clear h_137
          generalize w_130.heap.size = g_135 at *
          refine wpAnyH_all (rs := [19]) (by kernel_rfl) (by simp) ?_
          intro i hi
          simp only [List.mem_cons, List.not_mem_nil, or_false] at hi
          subst hi
          refine wpOp_of rfl rfl (wp_called (args := #[.agg (encP w21i).toArray, .slice (some ⟨g_135, 0, none⟩) 6 6]) hcM (by simp only [List.map_toArray, List.map_cons, List.map_nil]; rfl) (HM.out w_134 _ P_136.out) ?_)
          rintro e w_140 ⟨_, rfl, p_143, h_141⟩
          have P_142 := Lib.hid p_143
          obtain ⟨⟨A_144, c_145, A_146, c_147, rfl, _, _⟩, _, _⟩ := p_143
          refine ⟨_, rfl, ext_trans B_138.out h_141, ?_⟩
          simp only [Act.put, List.setIfInBounds_toArray, List.set_cons_zero, List.set_cons_succ]
          have B_148 := Lib.hid (ext_trans B_138.out h_141)
          have F_149 := Lib.hid (F_139.out.ext h_141)
          have F_150 := Lib.hid (P_136.out.ext h_141)
          clear B_138 F_139 P_136
          clear h_141
          refine takeV (i := 20) (d := 11) (v := .tuple #[.agg (patC w21p.1 A_144 w21p.2.1.length c_145 A_146 w21p.2.2.length c_147).toArray, .int .i64 0]) rfl (by kernel_rfl) (by kernel_rfl) (by kernel_rfl) (fun _ _ _ h => h) rfl (fun _ _ => exMove (v := .tuple #[.agg (patC w21p.1 A_144 w21p.2.1.length c_145 A_146 w21p.2.2.length c_147).toArray, .int .i64 0]) rfl) B_148.out ?_
          simp only [Act.put, List.setIfInBounds_toArray, List.set_cons_zero, List.set_cons_succ]
          refine takeV (i := 21) (d := 32) (v := .agg (patC w21p.1 A_144 w21p.2.1.length c_145 A_146 w21p.2.2.length c_147).toArray) rfl (by kernel_rfl) (by kernel_rfl) (by kernel_rfl) (fun _ _ _ h => h) rfl (fun _ _ => exExtract (v := .agg (patC w21p.1 A_144 w21p.2.1.length c_145 A_146 w21p.2.2.length c_147).toArray) rfl rfl) B_148.out ?_
          simp only [Act.put, List.setIfInBounds_toArray, List.set_cons_zero, List.set_cons_succ]
          refine takeV (i := 22) (d := 33) (v := .int .i64 0) rfl (by kernel_rfl) (by kernel_rfl) (by kernel_rfl) (fun _ _ _ h => h) rfl (fun _ _ => exExtract (v := .int .i64 0) rfl rfl) B_148.out ?_
          simp only [Act.put, List.setIfInBounds_toArray, List.set_cons_zero, List.set_cons_succ]
          refine wpAnyH_all (rs := [24]) (by kernel_rfl) (by simp) ?_
          intro i hi
          simp only [List.mem_cons, List.not_mem_nil, or_false] at hi
          subst hi
          refine wpOp_of rfl rfl (wp_stored (cs := (patC w21p.1 A_144 w21p.2.1.length c_145 A_146 w21p.2.2.length c_147).toArray) rfl rfl F_149.out (show (Tryz.prog.info? 37).map (·.size) = some ((patC w21p.1 A_144 w21p.2.1.length c_145 A_146 w21p.2.2.length c_147).toArray : Array Value).size from infoPat) rfl patC_one ?_)
          have K_151 := Lib.hid (F_149.out.row (patC w21p.1 A_144 w21p.2.1.length c_145 A_146 w21p.2.2.length c_147).toArray)
          have M_153 := Lib.hid (w21_kept F_149.out rfl P_142.out (patC w21p.1 A_144 w21p.2.1.length c_145 A_146 w21p.2.2.length c_147).toArray)
          have B_152 := Lib.hid (below_setRow B_148.out gz_123.out (patC w21p.1 A_144 w21p.2.1.length c_145 A_146 w21p.2.2.length c_147).toArray)
          refine ⟨B_152.out, ?_⟩
          clear B_148 F_149 F_150 P_142
          generalize (w_140.setRow g_124 (patC w21p.1 A_144 w21p.2.1.length c_145 A_146 w21p.2.2.length c_147).toArray) = w_154 at *
          refine takeV (i := 25) (d := 4) (v := .int .i64 0) rfl (by kernel_rfl) (by kernel_rfl) (by kernel_rfl) (fun _ _ _ h => h) rfl (fun _ _ => exAssign (v := .int .i64 0) rfl) B_152.out ?_
          simp only [Act.put, List.setIfInBounds_toArray, List.set_cons_zero, List.set_cons_succ]
          refine wpAnyH_done (by kernel_rfl) ?_ _
          go_wp2_with fail
          go_meet
          case rel => exact ⟨g_124, _, _, _, _, rfl, rfl, K_151.out, M_153.out, B_152.out⟩
      · refine wpOp_of rfl rfl (wp_alloced (allocPat _) ?_)
        refine ⟨ext_trans B_3.out (below_new _ _), ?_⟩
        simp only [Act.put, List.setIfInBounds_toArray, List.set_cons_zero, List.set_cons_succ]
        have K_155 : Hid (Blk (w_1.alloc (.cells #[.int .u8 0, .int .u16 0, .slice none 0 0, .slice none 0 0] 37)) w_1.heap.size 37 #[.int .u8 0, .int .u16 0, .slice none 0 0, .slice none 0 0]) := Blk.new _ _ _
        have h_156 : Below w_1.heap.size w_1 (w_1.alloc (.cells #[.int .u8 0, .int .u16 0, .slice none 0 0, .slice none 0 0] 37)) := below_new _ _
        have gz_158 : Hid (w3.heap.size ≤ w_1.heap.size) := B_3.out.size
        generalize (w_1.alloc (.cells #[.int .u8 0, .int .u16 0, .slice none 0 0, .slice none 0 0] 37)) = w_157 at *
        have B_160 := Lib.hid (ext_trans B_3.out h_156)
        clear B_3
        clear h_156
        generalize w_1.heap.size = g_159 at *
        refine wpAnyH_all (rs := [11]) (by kernel_rfl) (by simp) ?_
        intro i hi
        simp only [List.mem_cons, List.not_mem_nil, or_false] at hi
        subst hi
        refine wpOp_of rfl rfl (wp_called (args := #[.agg (encP w21i).toArray, .int .i64 2]) hcV (by simp only [List.map_toArray, List.map_cons, List.map_nil]; rfl) (vid18_any w21i 2 w_157) ?_)
        rintro e w_161 ⟨rfl, h_162⟩
        refine ⟨_, rfl, ext_trans B_160.out h_162, ?_⟩
        simp only [Act.put, List.setIfInBounds_toArray, List.set_cons_zero, List.set_cons_succ]
        have B_163 := Lib.hid (ext_trans B_160.out h_162)
        have F_164 := Lib.hid (K_155.out.ext h_162)
        clear B_160 K_155
        clear h_162
        refine takeV (i := 12) (d := 24) (v := .agg (encO w21c).toArray) rfl (by kernel_rfl) (by kernel_rfl) (by kernel_rfl) (fun _ _ _ h => h) rfl (fun w' _ => exBuild (vs := #[(0, .int .u8 4), (1, .agg (encV (vidOf w21i 1)).toArray), (2, .agg (encV (vidOf w21i 2)).toArray)]) (by simp only [List.map_toArray, List.map_cons, List.map_nil]; rfl) (build_w21c w')) B_163.out ?_
        simp only [Act.put, List.setIfInBounds_toArray, List.set_cons_zero, List.set_cons_succ]
        refine wpAnyH_all (rs := [14]) (by kernel_rfl) (by simp) ?_
        intro i hi
        simp only [List.mem_cons, List.not_mem_nil, or_false] at hi
        subst hi
        refine wpOp_of rfl rfl (wp_called (args := #[.agg (encP w21i).toArray, .int .i64 2]) hcV (by simp only [List.map_toArray, List.map_cons, List.map_nil]; rfl) (vid18_any w21i 2 w_161) ?_)
        rintro e w_165 ⟨rfl, h_166⟩
        refine ⟨_, rfl, ext_trans B_163.out h_166, ?_⟩
        simp only [Act.put, List.setIfInBounds_toArray, List.set_cons_zero, List.set_cons_succ]
        have B_167 := Lib.hid (ext_trans B_163.out h_166)
        have F_168 := Lib.hid (F_164.out.ext h_166)
        clear B_163 F_164
        clear h_166
        refine wpAnyH_all (rs := [16]) (by kernel_rfl) (by simp) ?_
        intro i hi
        simp only [List.mem_cons, List.not_mem_nil, or_false] at hi
        subst hi
        refine wpOp_of rfl rfl (wp_called (args := #[.agg (encP w21i).toArray, .int .i64 3]) hcV (by simp only [List.map_toArray, List.map_cons, List.map_nil]; rfl) (vid18_any w21i 3 w_165) ?_)
        rintro e w_169 ⟨rfl, h_170⟩
        refine ⟨_, rfl, ext_trans B_167.out h_170, ?_⟩
        simp only [Act.put, List.setIfInBounds_toArray, List.set_cons_zero, List.set_cons_succ]
        have B_171 := Lib.hid (ext_trans B_167.out h_170)
        have F_172 := Lib.hid (F_168.out.ext h_170)
        clear B_167 F_168
        clear h_170
        refine takeV (i := 17) (d := 29) (v := .agg (encO w21d).toArray) rfl (by kernel_rfl) (by kernel_rfl) (by kernel_rfl) (fun _ _ _ h => h) rfl (fun w' _ => exBuild (vs := #[(0, .int .u8 4), (1, .agg (encV (vidOf w21i 2)).toArray), (2, .agg (encV (vidOf w21i 3)).toArray)]) (by simp only [List.map_toArray, List.map_cons, List.map_nil]; rfl) (build_w21d w')) B_171.out ?_
        simp only [Act.put, List.setIfInBounds_toArray, List.set_cons_zero, List.set_cons_succ]
        refine wpAnyH_all (rs := [18]) (by kernel_rfl) (by simp) ?_
        intro i hi
        simp only [List.mem_cons, List.not_mem_nil, or_false] at hi
        subst hi
        have P_175 := Lib.hid (w21_ops w_169)
        have h_176 : Below w_169.heap.size w_169 (w_169.alloc (.cells [encO w21a, encO w21b, encO w21b, encO w21b, encO w21c, encO w21d].flatten.toArray 110)) := below_new _ _
        refine wpOp_of rfl rfl (wp_lits opSl [encO w21a, encO w21b, encO w21b, encO w21b, encO w21c, encO w21d] rfl (by simp) (by simp [encO]) (by simp) (by simp only [List.map_toArray, List.map_cons, List.map_nil]; rfl) ?_)
        refine ⟨ext_trans B_171.out h_176, ?_⟩
        simp only [Act.put, List.setIfInBounds_toArray, List.set_cons_zero, List.set_cons_succ]
        generalize (w_169.alloc (.cells [encO w21a, encO w21b, encO w21b, encO w21b, encO w21c, encO w21d].flatten.toArray 110)) = w_173 at *
        have B_177 := Lib.hid (ext_trans B_171.out h_176)
        have F_178 := Lib.hid (F_172.out.ext h_176)
        clear B_171 F_172
        clear h_176
        generalize w_169.heap.size = g_174 at *
        refine wpAnyH_all (rs := [19]) (by kernel_rfl) (by simp) ?_
        intro i hi
        simp only [List.mem_cons, List.not_mem_nil, or_false] at hi
        subst hi
        refine wpOp_of rfl rfl (wp_called (args := #[.agg (encP w21i).toArray, .slice (some ⟨g_174, 0, none⟩) 6 6]) hcM (by simp only [List.map_toArray, List.map_cons, List.map_nil]; rfl) (HM.out w_173 _ P_175.out) ?_)
        rintro e w_179 ⟨_, rfl, p_182, h_180⟩
        have P_181 := Lib.hid p_182
        obtain ⟨⟨A_183, c_184, A_185, c_186, rfl, _, _⟩, _, _⟩ := p_182
        refine ⟨_, rfl, ext_trans B_177.out h_180, ?_⟩
        simp only [Act.put, List.setIfInBounds_toArray, List.set_cons_zero, List.set_cons_succ]
        have B_187 := Lib.hid (ext_trans B_177.out h_180)
        have F_188 := Lib.hid (F_178.out.ext h_180)
        have F_189 := Lib.hid (P_175.out.ext h_180)
        clear B_177 F_178 P_175
        clear h_180
        refine takeV (i := 20) (d := 11) (v := .tuple #[.agg (patC w21p.1 A_183 w21p.2.1.length c_184 A_185 w21p.2.2.length c_186).toArray, .int .i64 0]) rfl (by kernel_rfl) (by kernel_rfl) (by kernel_rfl) (fun _ _ _ h => h) rfl (fun _ _ => exMove (v := .tuple #[.agg (patC w21p.1 A_183 w21p.2.1.length c_184 A_185 w21p.2.2.length c_186).toArray, .int .i64 0]) rfl) B_187.out ?_
        simp only [Act.put, List.setIfInBounds_toArray, List.set_cons_zero, List.set_cons_succ]
        refine takeV (i := 21) (d := 32) (v := .agg (patC w21p.1 A_183 w21p.2.1.length c_184 A_185 w21p.2.2.length c_186).toArray) rfl (by kernel_rfl) (by kernel_rfl) (by kernel_rfl) (fun _ _ _ h => h) rfl (fun _ _ => exExtract (v := .agg (patC w21p.1 A_183 w21p.2.1.length c_184 A_185 w21p.2.2.length c_186).toArray) rfl rfl) B_187.out ?_
        simp only [Act.put, List.setIfInBounds_toArray, List.set_cons_zero, List.set_cons_succ]
        refine takeV (i := 22) (d := 33) (v := .int .i64 0) rfl (by kernel_rfl) (by kernel_rfl) (by kernel_rfl) (fun _ _ _ h => h) rfl (fun _ _ => exExtract (v := .int .i64 0) rfl rfl) B_187.out ?_
        simp only [Act.put, List.setIfInBounds_toArray, List.set_cons_zero, List.set_cons_succ]
        refine wpAnyH_all (rs := [24]) (by kernel_rfl) (by simp) ?_
        intro i hi
        simp only [List.mem_cons, List.not_mem_nil, or_false] at hi
        subst hi
        refine wpOp_of rfl rfl (wp_stored (cs := (patC w21p.1 A_183 w21p.2.1.length c_184 A_185 w21p.2.2.length c_186).toArray) rfl rfl F_188.out (show (Tryz.prog.info? 37).map (·.size) = some ((patC w21p.1 A_183 w21p.2.1.length c_184 A_185 w21p.2.2.length c_186).toArray : Array Value).size from infoPat) rfl patC_one ?_)
        have K_190 := Lib.hid (F_188.out.row (patC w21p.1 A_183 w21p.2.1.length c_184 A_185 w21p.2.2.length c_186).toArray)
        have M_192 := Lib.hid (w21_kept F_188.out rfl P_181.out (patC w21p.1 A_183 w21p.2.1.length c_184 A_185 w21p.2.2.length c_186).toArray)
        have B_191 := Lib.hid (below_setRow B_187.out gz_158.out (patC w21p.1 A_183 w21p.2.1.length c_184 A_185 w21p.2.2.length c_186).toArray)
        refine ⟨B_191.out, ?_⟩
        clear B_187 F_188 F_189 P_181
        generalize (w_179.setRow g_159 (patC w21p.1 A_183 w21p.2.1.length c_184 A_185 w21p.2.2.length c_186).toArray) = w_193 at *
        refine takeV (i := 25) (d := 4) (v := .int .i64 0) rfl (by kernel_rfl) (by kernel_rfl) (by kernel_rfl) (fun _ _ _ h => h) rfl (fun _ _ => exAssign (v := .int .i64 0) rfl) B_191.out ?_
        simp only [Act.put, List.setIfInBounds_toArray, List.set_cons_zero, List.set_cons_succ]
        refine wpAnyH_done (by kernel_rfl) ?_ _
        go_wp2_with fail
        go_meet
        case rel => exact ⟨g_159, _, _, _, _, rfl, rfl, K_190.out, M_192.out, B_191.out⟩
    · refine wpOp_of rfl rfl (wp_alloced (allocPat _) ?_)
      refine ⟨ext_trans B4.out (below_new _ _), ?_⟩
      simp only [Act.put, List.setIfInBounds_toArray, List.set_cons_zero, List.set_cons_succ]
      have K_194 : Hid (Blk (w4.alloc (.cells #[.int .u8 0, .int .u16 0, .slice none 0 0, .slice none 0 0] 37)) w4.heap.size 37 #[.int .u8 0, .int .u16 0, .slice none 0 0, .slice none 0 0]) := Blk.new _ _ _
      have h_195 : Below w4.heap.size w4 (w4.alloc (.cells #[.int .u8 0, .int .u16 0, .slice none 0 0, .slice none 0 0] 37)) := below_new _ _
      have gz_197 : Hid (w3.heap.size ≤ w4.heap.size) := B4.out.size
      generalize (w4.alloc (.cells #[.int .u8 0, .int .u16 0, .slice none 0 0, .slice none 0 0] 37)) = w_196 at *
      have B_199 := Lib.hid (ext_trans B4.out h_195)
      clear B4
      clear h_195
      generalize w4.heap.size = g_198 at *
      refine wpAnyH_all (rs := [9]) (by kernel_rfl) (by simp) ?_
      intro i hi
      simp only [List.mem_cons, List.not_mem_nil, or_false] at hi
      subst hi
      refine wpOp_of rfl rfl (wp_called (args := #[.agg (encP w21i).toArray, .int .i64 1]) hcV (by simp only [List.map_toArray, List.map_cons, List.map_nil]; rfl) (vid18_any w21i 1 w_196) ?_)
      rintro e w_200 ⟨rfl, h_201⟩
      refine ⟨_, rfl, ext_trans B_199.out h_201, ?_⟩
      simp only [Act.put, List.setIfInBounds_toArray, List.set_cons_zero, List.set_cons_succ]
      have B_202 := Lib.hid (ext_trans B_199.out h_201)
      have F_203 := Lib.hid (K_194.out.ext h_201)
      clear B_199 K_194
      clear h_201
      refine wpAnyH_all (rs := [11]) (by kernel_rfl) (by simp) ?_
      intro i hi
      simp only [List.mem_cons, List.not_mem_nil, or_false] at hi
      subst hi
      refine wpOp_of rfl rfl (wp_called (args := #[.agg (encP w21i).toArray, .int .i64 2]) hcV (by simp only [List.map_toArray, List.map_cons, List.map_nil]; rfl) (vid18_any w21i 2 w_200) ?_)
      rintro e w_204 ⟨rfl, h_205⟩
      refine ⟨_, rfl, ext_trans B_202.out h_205, ?_⟩
      simp only [Act.put, List.setIfInBounds_toArray, List.set_cons_zero, List.set_cons_succ]
      have B_206 := Lib.hid (ext_trans B_202.out h_205)
      have F_207 := Lib.hid (F_203.out.ext h_205)
      clear B_202 F_203
      clear h_205
      refine takeV (i := 12) (d := 24) (v := .agg (encO w21c).toArray) rfl (by kernel_rfl) (by kernel_rfl) (by kernel_rfl) (fun _ _ _ h => h) rfl (fun w' _ => exBuild (vs := #[(0, .int .u8 4), (1, .agg (encV (vidOf w21i 1)).toArray), (2, .agg (encV (vidOf w21i 2)).toArray)]) (by simp only [List.map_toArray, List.map_cons, List.map_nil]; rfl) (build_w21c w')) B_206.out ?_
      simp only [Act.put, List.setIfInBounds_toArray, List.set_cons_zero, List.set_cons_succ]
      refine wpAnyH_all (rs := [14]) (by kernel_rfl) (by simp) ?_
      intro i hi
      simp only [List.mem_cons, List.not_mem_nil, or_false] at hi
      subst hi
      refine wpOp_of rfl rfl (wp_called (args := #[.agg (encP w21i).toArray, .int .i64 2]) hcV (by simp only [List.map_toArray, List.map_cons, List.map_nil]; rfl) (vid18_any w21i 2 w_204) ?_)
      rintro e w_208 ⟨rfl, h_209⟩
      refine ⟨_, rfl, ext_trans B_206.out h_209, ?_⟩
      simp only [Act.put, List.setIfInBounds_toArray, List.set_cons_zero, List.set_cons_succ]
      have B_210 := Lib.hid (ext_trans B_206.out h_209)
      have F_211 := Lib.hid (F_207.out.ext h_209)
      clear B_206 F_207
      clear h_209
      refine wpAnyH_all (rs := [16]) (by kernel_rfl) (by simp) ?_
      intro i hi
      simp only [List.mem_cons, List.not_mem_nil, or_false] at hi
      subst hi
      refine wpOp_of rfl rfl (wp_called (args := #[.agg (encP w21i).toArray, .int .i64 3]) hcV (by simp only [List.map_toArray, List.map_cons, List.map_nil]; rfl) (vid18_any w21i 3 w_208) ?_)
      rintro e w_212 ⟨rfl, h_213⟩
      refine ⟨_, rfl, ext_trans B_210.out h_213, ?_⟩
      simp only [Act.put, List.setIfInBounds_toArray, List.set_cons_zero, List.set_cons_succ]
      have B_214 := Lib.hid (ext_trans B_210.out h_213)
      have F_215 := Lib.hid (F_211.out.ext h_213)
      clear B_210 F_211
      clear h_213
      refine takeV (i := 17) (d := 29) (v := .agg (encO w21d).toArray) rfl (by kernel_rfl) (by kernel_rfl) (by kernel_rfl) (fun _ _ _ h => h) rfl (fun w' _ => exBuild (vs := #[(0, .int .u8 4), (1, .agg (encV (vidOf w21i 2)).toArray), (2, .agg (encV (vidOf w21i 3)).toArray)]) (by simp only [List.map_toArray, List.map_cons, List.map_nil]; rfl) (build_w21d w')) B_214.out ?_
      simp only [Act.put, List.setIfInBounds_toArray, List.set_cons_zero, List.set_cons_succ]
      refine wpAnyH_all (rs := [18]) (by kernel_rfl) (by simp) ?_
      intro i hi
      simp only [List.mem_cons, List.not_mem_nil, or_false] at hi
      subst hi
      have P_218 := Lib.hid (w21_ops w_212)
      have h_219 : Below w_212.heap.size w_212 (w_212.alloc (.cells [encO w21a, encO w21b, encO w21b, encO w21b, encO w21c, encO w21d].flatten.toArray 110)) := below_new _ _
      refine wpOp_of rfl rfl (wp_lits opSl [encO w21a, encO w21b, encO w21b, encO w21b, encO w21c, encO w21d] rfl (by simp) (by simp [encO]) (by simp) (by simp only [List.map_toArray, List.map_cons, List.map_nil]; rfl) ?_)
      refine ⟨ext_trans B_214.out h_219, ?_⟩
      simp only [Act.put, List.setIfInBounds_toArray, List.set_cons_zero, List.set_cons_succ]
      generalize (w_212.alloc (.cells [encO w21a, encO w21b, encO w21b, encO w21b, encO w21c, encO w21d].flatten.toArray 110)) = w_216 at *
      have B_220 := Lib.hid (ext_trans B_214.out h_219)
      have F_221 := Lib.hid (F_215.out.ext h_219)
      clear B_214 F_215
      clear h_219
      generalize w_212.heap.size = g_217 at *
      refine wpAnyH_all (rs := [19]) (by kernel_rfl) (by simp) ?_
      intro i hi
      simp only [List.mem_cons, List.not_mem_nil, or_false] at hi
      subst hi
      refine wpOp_of rfl rfl (wp_called (args := #[.agg (encP w21i).toArray, .slice (some ⟨g_217, 0, none⟩) 6 6]) hcM (by simp only [List.map_toArray, List.map_cons, List.map_nil]; rfl) (HM.out w_216 _ P_218.out) ?_)
      rintro e w_222 ⟨_, rfl, p_225, h_223⟩
      have P_224 := Lib.hid p_225
      obtain ⟨⟨A_226, c_227, A_228, c_229, rfl, _, _⟩, _, _⟩ := p_225
      refine ⟨_, rfl, ext_trans B_220.out h_223, ?_⟩
      simp only [Act.put, List.setIfInBounds_toArray, List.set_cons_zero, List.set_cons_succ]
      have B_230 := Lib.hid (ext_trans B_220.out h_223)
      have F_231 := Lib.hid (F_221.out.ext h_223)
      have F_232 := Lib.hid (P_218.out.ext h_223)
      clear B_220 F_221 P_218
      clear h_223
      refine takeV (i := 20) (d := 11) (v := .tuple #[.agg (patC w21p.1 A_226 w21p.2.1.length c_227 A_228 w21p.2.2.length c_229).toArray, .int .i64 0]) rfl (by kernel_rfl) (by kernel_rfl) (by kernel_rfl) (fun _ _ _ h => h) rfl (fun _ _ => exMove (v := .tuple #[.agg (patC w21p.1 A_226 w21p.2.1.length c_227 A_228 w21p.2.2.length c_229).toArray, .int .i64 0]) rfl) B_230.out ?_
      simp only [Act.put, List.setIfInBounds_toArray, List.set_cons_zero, List.set_cons_succ]
      refine takeV (i := 21) (d := 32) (v := .agg (patC w21p.1 A_226 w21p.2.1.length c_227 A_228 w21p.2.2.length c_229).toArray) rfl (by kernel_rfl) (by kernel_rfl) (by kernel_rfl) (fun _ _ _ h => h) rfl (fun _ _ => exExtract (v := .agg (patC w21p.1 A_226 w21p.2.1.length c_227 A_228 w21p.2.2.length c_229).toArray) rfl rfl) B_230.out ?_
      simp only [Act.put, List.setIfInBounds_toArray, List.set_cons_zero, List.set_cons_succ]
      refine takeV (i := 22) (d := 33) (v := .int .i64 0) rfl (by kernel_rfl) (by kernel_rfl) (by kernel_rfl) (fun _ _ _ h => h) rfl (fun _ _ => exExtract (v := .int .i64 0) rfl rfl) B_230.out ?_
      simp only [Act.put, List.setIfInBounds_toArray, List.set_cons_zero, List.set_cons_succ]
      refine wpAnyH_all (rs := [24]) (by kernel_rfl) (by simp) ?_
      intro i hi
      simp only [List.mem_cons, List.not_mem_nil, or_false] at hi
      subst hi
      refine wpOp_of rfl rfl (wp_stored (cs := (patC w21p.1 A_226 w21p.2.1.length c_227 A_228 w21p.2.2.length c_229).toArray) rfl rfl F_231.out (show (Tryz.prog.info? 37).map (·.size) = some ((patC w21p.1 A_226 w21p.2.1.length c_227 A_228 w21p.2.2.length c_229).toArray : Array Value).size from infoPat) rfl patC_one ?_)
      have K_233 := Lib.hid (F_231.out.row (patC w21p.1 A_226 w21p.2.1.length c_227 A_228 w21p.2.2.length c_229).toArray)
      have M_235 := Lib.hid (w21_kept F_231.out rfl P_224.out (patC w21p.1 A_226 w21p.2.1.length c_227 A_228 w21p.2.2.length c_229).toArray)
      have B_234 := Lib.hid (below_setRow B_230.out gz_197.out (patC w21p.1 A_226 w21p.2.1.length c_227 A_228 w21p.2.2.length c_229).toArray)
      refine ⟨B_234.out, ?_⟩
      clear B_230 F_231 F_232 P_224
      generalize (w_222.setRow g_198 (patC w21p.1 A_226 w21p.2.1.length c_227 A_228 w21p.2.2.length c_229).toArray) = w_236 at *
      refine takeV (i := 25) (d := 4) (v := .int .i64 0) rfl (by kernel_rfl) (by kernel_rfl) (by kernel_rfl) (fun _ _ _ h => h) rfl (fun _ _ => exAssign (v := .int .i64 0) rfl) B_234.out ?_
      simp only [Act.put, List.setIfInBounds_toArray, List.set_cons_zero, List.set_cons_succ]
      refine wpAnyH_done (by kernel_rfl) ?_ _
      go_wp2_with fail
      go_meet
      case rel => exact ⟨g_198, _, _, _, _, rfl, rfl, K_233.out, M_235.out, B_234.out⟩
  case rest =>
    obtain ⟨gp, A1, c1, A2, c2, rfl, rfl, KP, PA, bx⟩ := hcut
    obtain ⟨w5, rfl⟩ : ∃ wx, wx = wc := ⟨_, rfl⟩
    have KP := Lib.hid KP
    have PA := Lib.hid PA
    have RA5 := Lib.hid (RA.out w5 bx)
    have B5 := Lib.hid (B3.out.trans (bx.mono B3.out.size))
    have RF5 := Lib.hid (fun (u : World) (hu : Below w5.heap.size w5 u) => RF.out u (ext_trans bx hu))
    clear bx HM hcM hcV RA RF B3
    go_wp2_with (refine wpList_load_mid rfl 33 _ (by rfl) ga 0 (by rfl) _ _ RA5.out underPid rfl infoPid ?_)
    refine (vid18_any w21i 2 w5).mono ?_
    rintro e w51 ⟨rfl, b51⟩
    go_wp2_with fail
    have HO := ops_new w51 [w21k] (by simp [OpV.ok, w21k, maxLen])
    have b52 : Below w5.heap.size w5 (w51.alloc (.cells ([w21k].flatMap encO).toArray 110)) := b51.alloc b51.size _
    have KP2 := Lib.hid (KP.out.ext b52)
    have PA2 := Lib.hid (PA.out.ext b52)
    have B52 := Lib.hid (B5.out.trans (b52.mono B5.out.size))
    refine (HN.out _ _ HO).mono ?_
    rintro e w6 ⟨cs, rfl, pb, b6⟩
    have RF6 := Lib.hid (fun (u : World) (hu : Below w6.heap.size w6 u) => RF5.out u (ext_trans (ext_trans b52 b6) hu))
    have KP6 := Lib.hid (KP2.out.ext b6)
    have PA6 := Lib.hid (PA2.out.ext b6)
    have PB := Lib.hid pb
    have B6 := Lib.hid (B52.out.trans (b6.mono B52.out.size))
    obtain ⟨⟨A3, c3, A4, c4, rfl, _, _⟩, _, _⟩ := pb
    clear b6 b52 b51 HO KP PA KP2 PA2 B52 B5 RF5 RA5 HN
    have KQ : Hid (Blk ((w6.alloc (.cells #[.int .u8 0, .int .u16 0, .slice none 0 0, .slice none 0 0] 37)).setRow w6.heap.size (patC w21q.1 A3 w21q.2.1.length c3 A4 w21q.2.2.length c4).toArray) w6.heap.size 37 (patC w21q.1 A3 w21q.2.1.length c3 A4 w21q.2.2.length c4).toArray) := (Blk.new _ _ _).row _
    have BQ : Hid (Below w6.heap.size w6 ((w6.alloc (.cells #[.int .u8 0, .int .u16 0, .slice none 0 0, .slice none 0 0] 37)).setRow w6.heap.size (patC w21q.1 A3 w21q.2.1.length c3 A4 w21q.2.2.length c4).toArray)) := below_setRow (below_new w6 _) (Nat.le_refl _) _
    go_upto_region 5 with (first
      | (refine wpList_alloced (allocPat _) ?_)
      | (refine wpList_store_row rfl 37 _ _ (by rfl) w6.heap.size (patC w21q.1 A3 w21q.2.1.length c3 A4 w21q.2.2.length c4).toArray (by rfl) (by rfl) _ _ (Blk.new _ _ _) infoPat rfl patC_one ?_))
    have KP7 := Lib.hid (KP6.out.ext BQ.out)
    have PA7 := Lib.hid (PA6.out.ext BQ.out)
    have PB7 := Lib.hid (PB.out.ext BQ.out)
    have B7 := Lib.hid (B6.out.trans (BQ.out.mono B6.out.size))
    have RF7 := Lib.hid (fun (u : World) (hu : Below (((w6.alloc (.cells #[.int .u8 0, .int .u16 0, .slice none 0 0, .slice none 0 0] 37)).setRow w6.heap.size (patC w21q.1 A3 w21q.2.1.length c3 A4 w21q.2.2.length c4).toArray)).heap.size ((w6.alloc (.cells #[.int .u8 0, .int .u16 0, .slice none 0 0, .slice none 0 0] 37)).setRow w6.heap.size (patC w21q.1 A3 w21q.2.1.length c3 A4 w21q.2.2.length c4).toArray) u) => RF6.out u (ext_trans BQ.out hu))
    clear KP6 PA6 PB B6 BQ RF6
    generalize ((w6.alloc (.cells #[.int .u8 0, .int .u16 0, .slice none 0 0, .slice none 0 0] 37)).setRow w6.heap.size (patC w21q.1 A3 w21q.2.1.length c3 A4 w21q.2.2.length c4).toArray) = w7 at *
    generalize w6.heap.size = gq at *
    have RP := Lib.hid (fun (u : World) (hu : Below w7.heap.size w7 u) => blk_range21 (KP7.out.ext hu))
    have RQ := Lib.hid (fun (u : World) (hu : Below w7.heap.size w7 u) => blk_range21 (KQ.out.ext hu))
    have PP := Lib.hid (fun (u : World) (hu : Below w7.heap.size w7 u) => PA7.out.ext hu)
    have PQ := Lib.hid (fun (u : World) (hu : Below w7.heap.size w7 u) => PB7.out.ext hu)
    clear KP7 KQ PA7 PB7
    have hcB : ∀ args u, (callFunc 18 args).run Tryz.prog u = .ok (.enter 18 args) u := enters_of Tryz.func18 (by kernel_rfl) rfl
    have hcO : ∀ args u, (callFunc 45 args).run Tryz.prog u = .ok (.enter 45 args) u := enters_of Tryz.func45 (by kernel_rfl) rfl
    refine wp_region_held (S := fun w' => Below w7.heap.size w7 w') mixedS ?_
    change wpAnyH _ _ _ _ _ _ _ _ w7.drew
    have B8 : Hid (Below w7.heap.size w7 w7.drew) := (Below.refl _ _).drew
    generalize w7.drew = w8 at B8 ⊢
    simp only [List.size_toArray, List.length_cons, List.length_nil]
    refine takeV (i := 0) (d := 43) (v := .agg (patC w21p.1 A1 w21p.2.1.length c1 A2 w21p.2.2.length c2).toArray) rfl (by kernel_rfl) (by kernel_rfl) (by kernel_rfl) (fun _ _ _ h => h) rfl (fun w' h => exMid rfl (RP.out w' h) underPat rfl infoPat) B8.out ?_
    simp only [Act.put, List.setIfInBounds_toArray, List.set_cons_zero, List.set_cons_succ]
    refine takeV (i := 1) (d := 44) (v := .agg (patC w21q.1 A3 w21q.2.1.length c3 A4 w21q.2.2.length c4).toArray) rfl (by kernel_rfl) (by kernel_rfl) (by kernel_rfl) (fun _ _ _ h => h) rfl (fun w' h => exMid rfl (RQ.out w' h) underPat rfl infoPat) B8.out ?_
    simp only [Act.put, List.setIfInBounds_toArray, List.set_cons_zero, List.set_cons_succ]
    refine takeV (i := 4) (d := 47) (v := .agg (encV w21f).toArray) rfl (by kernel_rfl) (by kernel_rfl) (by kernel_rfl) (fun _ _ _ h => h) rfl (fun w' h => exMid rfl (RF7.out w' h) underVid rfl infoVid) B8.out ?_
    simp only [Act.put, List.setIfInBounds_toArray, List.set_cons_zero, List.set_cons_succ]
    refine wpAnyH_all (rs := [2]) (by kernel_rfl) (by simp) ?_
    intro i hi
    simp only [List.mem_cons, List.not_mem_nil, or_false] at hi
    subst hi
    have P_3 := Lib.hid (pats_two (PP.out w8 B8.out) (PQ.out w8 B8.out))
    have h_4 : Below w8.heap.size w8 (w8.alloc (.cells [(patC w21p.1 A1 w21p.2.1.length c1 A2 w21p.2.2.length c2), (patC w21q.1 A3 w21q.2.1.length c3 A4 w21q.2.2.length c4)].flatten.toArray 37)) := below_new _ _
    refine wpOp_of rfl rfl (wp_lits patSl [(patC w21p.1 A1 w21p.2.1.length c1 A2 w21p.2.2.length c2), (patC w21q.1 A3 w21q.2.1.length c3 A4 w21q.2.2.length c4)] rfl (by simp) (by simp [patC]) (by simp) (by simp only [List.map_toArray, List.map_cons, List.map_nil]; rfl) ?_)
    refine ⟨ext_trans B8.out h_4, ?_⟩
    simp only [Act.put, List.setIfInBounds_toArray, List.set_cons_zero, List.set_cons_succ]
    generalize (w8.alloc (.cells [(patC w21p.1 A1 w21p.2.1.length c1 A2 w21p.2.2.length c2), (patC w21q.1 A3 w21q.2.1.length c3 A4 w21q.2.2.length c4)].flatten.toArray 37)) = w_1 at *
    have B_5 := Lib.hid (ext_trans B8.out h_4)
    clear B8
    clear h_4
    generalize w8.heap.size = g_2 at *
    refine wpAnyH_all (rs := [3]) (by kernel_rfl) (by simp) ?_
    intro i hi
    simp only [List.mem_cons, List.not_mem_nil, or_false] at hi
    subst hi
    have HBu := Lib.hid (build20_any w_1 [w21p, w21q] _ 2 2 (by decide) P_3.out)
    rw [w21_run] at HBu
    refine wpOp_of rfl rfl (wp_called (args := #[.slice (some ⟨g_2, 0, none⟩) 2 2]) hcB (by simp only [List.map_toArray, List.map_cons, List.map_nil]; rfl) HBu.out ?_)
    rintro e w_6 ⟨F_11, g_10, rfl, hG_8, _, h_7⟩
    have G_9 := Lib.hid hG_8
    clear HBu hG_8
    refine ⟨_, rfl, ext_trans B_5.out h_7, ?_⟩
    simp only [Act.put, List.setIfInBounds_toArray, List.set_cons_zero, List.set_cons_succ]
    have B_12 := Lib.hid (ext_trans B_5.out h_7)
    have F_13 := Lib.hid (P_3.out.ext h_7)
    clear B_5 P_3
    clear h_7
    refine wpAnyH_all (rs := [5]) (by kernel_rfl) (by simp) ?_
    intro i hi
    simp only [List.mem_cons, List.not_mem_nil, or_false] at hi
    subst hi
    refine wpOp_of rfl rfl (wp_called (args := #[.pointer (some ⟨g_10, 0, none⟩), .agg (encV w21f).toArray]) hcO (by simp only [List.map_toArray, List.map_cons, List.map_nil]; rfl) (lof_any G_9.out (by decide) w21f) ?_)
    rintro e w_14 ⟨gs, R, rfl, hSh, hR, _, b9⟩
    obtain rfl := w21_rel hR
    have SH := Lib.hid hSh
    clear hR hSh
    refine ⟨_, rfl, ext_trans B_12.out b9, ?_⟩
    simp only [Act.put, List.setIfInBounds_toArray, List.set_cons_zero, List.set_cons_succ]
    have B_15 := Lib.hid (ext_trans B_12.out b9)
    have F_16 := Lib.hid (F_13.out.ext b9)
    have F_17 := Lib.hid (G_9.out.ext b9)
    clear B_12 F_13 G_9
    clear b9
    refine takeV (i := 6) (d := 7) (v := .pointer (some ⟨gs, 0, none⟩)) rfl (by kernel_rfl) (by kernel_rfl) (by kernel_rfl) (fun _ _ _ h => h) rfl (fun _ _ => exAssign (v := .pointer (some ⟨gs, 0, none⟩)) rfl) B_15.out ?_
    simp only [Act.put, List.setIfInBounds_toArray, List.set_cons_zero, List.set_cons_succ]
    refine wpAnyH_done (by kernel_rfl) ?_ _
    rw [w21_len] at SH
    have B9 := Lib.hid (B7.out.trans (B_15.out.mono B7.out.size))
    obtain ⟨w9, rfl⟩ : ∃ wx, wx = w_14 := ⟨_, rfl⟩
    clear B_15 F_16 F_17
    clear RP RQ RF7 PP PQ B7 hcB hcO
    have HA := Lib.hid (fun (u : World) (hu : Below w9.heap.size w9 u) => alive21_any (SH.out.ext hu) (by rw [w21_ord.1]; decide) (fun i hi => by rw [w21_len]; exact w21_ord.2 i hi))
    rw [w21_live] at HA
    have HR := Lib.hid (fun (u : World) (hu : Below w9.heap.size w9 u) => rel21_any (SH.out.ext hu))
    have HL := Lib.hid (fun (u : World) (hu : Below w9.heap.size w9 u) => len21_any (SH.out.ext hu))
    have HF := Lib.hid (fun (u : World) (hu : Below w9.heap.size w9 u) => firm21_any (SH.out.ext hu) (by rw [w21_len]; decide) 1)
    rw [w21_len] at HR HL HF
    rw [w21_firm] at HF
    clear SH
    go_wp2_with fail
    refine (HA.out w9 (Below.refl _ _)).mono ?_
    rintro e w10 ⟨_, rfl, o10, b10⟩
    obtain ⟨A10, c10, rfl, _, s10⟩ := Sl.of_own o10
    have S10 := Lib.hid s10
    have B10 := Lib.hid b10
    clear o10 s10 b10 HA
    have S11 : Hid (Sl (w10.alloc (.cells #[.int .i64 0, .int .i64 2] 3)) (w10.alloc (.cells #[.int .i64 0, .int .i64 2] 3)).heap.size 1 A10 2 (encN [0, 2])) := sl_ext S10.out (below_new _ _)
    have HI := Lib.hid (ints_same [0, 2] _ _ _ 2 c10 2 rfl S11.out (sl_two (w := w10)) (by decide))
    have B11 : Hid (Below w9.heap.size w9 (w10.alloc (.cells #[.int .i64 0, .int .i64 2] 3))) := B10.out.alloc B10.out.size _
    go_wp2_with fail
    refine HI.out.mono ?_
    rintro e w12 ⟨rfl, hq⟩
    have B12 : Hid (Below w9.heap.size w9 w12) := by obtain ⟨q, rfl⟩ := hq; exact below_drewN B11.out q
    clear S10 S11 HI B10 B11 hq
    go_wp2_with fail
    refine (HR.out w12 B12.out).mono ?_
    rintro e w13 ⟨gr, rfl, hr, h13⟩
    rw [h13] at hr ⊢
    clear h13
    have HB := Lib.hid (w21_before hr)
    clear hr HR
    go_wp2_with fail
    refine HB.out.mono ?_
    rintro e w13 ⟨rfl, h13⟩
    rw [← h13]
    clear h13
    clear HB
    go_wp2_with fail
    refine (HL.out w12 B12.out).mono ?_
    rintro e w13 ⟨rfl, h13⟩
    rw [← h13]
    clear h13
    clear HL
    go_wp2_with fail
    refine (HF.out w12 B12.out).mono ?_
    rintro e w13 ⟨rfl, h13⟩
    rw [← h13]
    clear h13
    clear HF
    have BZ := Lib.hid (B9.out.trans (B12.out.mono B9.out.size))
    go_wp2
    go_ret
    exact ⟨rfl, BZ.out⟩
end Go.Proofs.YtfnhmbflmifhcaaGreat

/- Of nil there are no lines: the statement walked. -/
namespace Go.Proofs.YtfnhmbflmifhcaaGreat
open Go.RowKit

theorem u8_bdB {z : Int} (h : (Lit.int .u8 z).wf = true) : 0 ≤ z ∧ z < 256 := by simp [Lit.wf, IntKind.min, IntKind.max, IntKind.signed, IntKind.bits] at h; omega
theorem u16_bdB {z : Int} (h : (Lit.int .u16 z).wf = true) : 0 ≤ z ∧ z < 65536 := by simp [Lit.wf, IntKind.min, IntKind.max, IntKind.signed, IntKind.bits] at h; omega
theorem vid_flatB : ∀ {cs : List Value}, FlatOk [.int .u8, .int .u16, .int .u8] cs → ∃ v : VidV, cs = encV v
  | [_, _, _], ⟨⟨a, rfl, ha⟩, ⟨s, rfl, hs⟩, ⟨n, rfl, hn⟩, _⟩ => by
    have h1 := u8_bdB ha
    have h2 := u16_bdB hs
    have h3 := u8_bdB hn
    refine ⟨((⟨a.toNat, by omega⟩, ⟨s.toNat, by omega⟩), ⟨n.toNat, by omega⟩), ?_⟩
    show _ = [Value.int .u8 ((a.toNat : Nat) : Int), .int .u16 ((s.toNat : Nat) : Int), .int .u8 ((n.toNat : Nat) : Int)]
    rw [Int.toNat_of_nonneg h1.1, Int.toNat_of_nonneg h2.1, Int.toNat_of_nonneg h3.1]
set_option maxRecDepth 100000 in
theorem alive21_nil (w : World) : Calls Tryz.prog 53 #[.pointer none] w (RetB w (.slice none 0 0)) := by
  have KB : Hid (Blk (w.alloc (.cells #[.pointer none] 85)) w.heap.size 85 #[.pointer none]) := Blk.new _ _ _
  have B0 : Hid (Below w.heap.size w (w.alloc (.cells #[.pointer none] 85))) := below_new _ _
  go_enter Tryz.func53, Tryz.ntmps53
  go_upto_region 1 with fail
  generalize (w.alloc (.cells #[.pointer none] 85)) = w2 at *
  obtain ⟨gb, hgb⟩ : ∃ gb, gb = w.heap.size := ⟨_, rfl⟩
  rw [← hgb] at KB ⊢
  replace hgb := Lib.hid hgb
  have y0 : w2.cell? ⟨gb, 0, none⟩ = some (.pointer none) := KB.out.cell 0
  go_wp2_with fail
  refine (order21_nil w2).mono ?_
  rintro e w3 ⟨rfl, h3⟩
  rw [← h3]
  clear h3
  go_wp2_with fail
  refine (deleteI_nil w2 _).mono ?_
  rintro e w4 ⟨rfl, h4⟩
  rw [← h4]
  clear h4
  go_wp2
  go_ret
  exact ⟨rfl, B0.out⟩
theorem len8_nil (w : World) : Calls Tryz.prog 49 #[.pointer none] w (Ret w (.int .i64 0)) := by
  go_enter Tryz.func49, Tryz.ntmps49
  go_wp2
  go_ret
  exact ⟨rfl, rfl⟩
theorem eqlX_self (x : VertV) (w : World) : (binOp .eql 46 (.agg (encX x).toArray) (.agg (encX x).toArray)).run Tryz.prog w = .ok (.bool true) w := by
  unfold encX
  simp [go_sem]
set_option maxRecDepth 100000 in
set_option maxHeartbeats 4000000 in
theorem linesNil_walk (i : Int) (_ : (Lit.int .i64 i).wf = true) (v : VidV) (w : World) : Calls Tryz.prog 9 #[.int .i64 i, .agg (encV v).toArray] w (RetB w (.bool true)) := by
  have KV : Hid (Blk (w.alloc (.cells (encV v).toArray 43)) w.heap.size 43 (encV v).toArray) := Blk.new _ _ _
  have B0 : Hid (Below w.heap.size w (w.alloc (.cells (encV v).toArray 43))) := below_new _ _
  go_enter Tryz.func9, Tryz.ntmps9
  go_upto_region 1 with fail
  generalize (w.alloc (.cells (encV v).toArray 43)) = w2 at *
  obtain ⟨gv, hgv⟩ : ∃ g, g = w.heap.size := ⟨_, rfl⟩
  rw [← hgv] at KV ⊢
  replace hgv := Lib.hid hgv
  go_wp2_with fail
  refine (line21_nil i w2).mono ?_
  rintro e w3 ⟨rfl, b3⟩
  have B3 := Lib.hid (B0.out.trans (b3.mono B0.out.size))
  have KV3 := Lib.hid (KV.out.ext b3)
  clear b3 KV B0
  have KX : Hid (Blk ((w3.alloc (.cells zeroX 46)).setRow w3.heap.size (encX zeroVert).toArray) w3.heap.size 46 (encX zeroVert).toArray) := (Blk.new _ _ _).row _
  have BN : Hid (Below w3.heap.size w3 ((w3.alloc (.cells zeroX 46)).setRow w3.heap.size (encX zeroVert).toArray)) := below_setRow (below_new w3 _) (Nat.le_refl _) _
  go_upto_region 3 with (first
    | (refine wpList_alloced (allocVert _) ?_)
    | (refine wpList_store_row rfl 46 _ _ (by rfl) w3.heap.size (encX zeroVert).toArray (by rfl) (by rfl) _ _ (Blk.new _ _ _) infoVert rfl (encX_all _) ?_))
  have KV4 := Lib.hid (KV3.out.ext BN.out)
  have B4 := Lib.hid (B3.out.trans (BN.out.mono B3.out.size))
  clear KV3 B3 BN
  generalize ((w3.alloc (.cells zeroX 46)).setRow w3.heap.size (encX zeroVert).toArray) = w4 at *
  generalize w3.heap.size = gx at *
  go_wp2_with (refine wpList_load_row rfl 43 _ (by rfl) gv (by rfl) _ _ _ _ KV4.out underVid rfl infoVid ?_)
  refine (lof_nil v w4).mono ?_
  rintro e w5 ⟨gs, R, rfl, hSh, _, _, b5⟩
  have SH := Lib.hid hSh
  have KX5 := Lib.hid (KX.out.ext b5)
  have B5 := Lib.hid (B4.out.trans (b5.mono B4.out.size))
  have EO : Hid (ordR R ([] : List VertV).length = []) := rfl
  rw [EO.out] at SH
  clear hSh b5 KX B4 KV4 EO
  have EX : ∀ u : World, (binOp .eql 46 (.agg (encX zeroVert).toArray) (.agg #[.int .u8 0, .int .u16 0, .int .u8 0, .int .u8 0, .int .u8 0, .int .u16 0, .int .u8 0, .string { data := #[] }, .bool false])).run Tryz.prog u = .ok (.bool true) u := fun u => eqlX_self zeroVert u
  go_wp2_with fail
  refine (len21_nil w5).mono ?_
  rintro e w6 ⟨rfl, h6⟩
  rw [← h6]
  clear h6
  go_wp2_with (first
    | (refine wpList_load_rowG (by kernel_rfl) 46 _ (by rfl) gx (by rfl) _ _ _ _ KX5.out underVert rfl infoVert ?_))
  clear EX KX5
  have HR := Lib.hid (rel21_nil w5)
  refine HR.out.mono ?_
  rintro e w7 ⟨rfl, h7⟩
  rw [← h7]
  clear h7 HR
  go_wp2_with fail
  refine (len8_nil w5).mono ?_
  rintro e w8 ⟨rfl, h8⟩
  rw [← h8]
  clear h8
  go_wp2_with fail
  refine (order21_nil w5).mono ?_
  rintro e w9 ⟨rfl, h9⟩
  rw [← h9]
  clear h9
  go_wp2_with fail
  refine (alive21_nil w5).mono ?_
  rintro e wa ⟨rfl, ba⟩
  have SHa := Lib.hid (SH.out.ext ba)
  have Ba := Lib.hid (B5.out.trans (ba.mono B5.out.size))
  clear ba SH B5
  go_wp2_with fail
  refine (firm21_nil i wa).mono ?_
  rintro e wb ⟨rfl, hb⟩
  rw [← hb]
  clear hb
  go_wp2_with fail
  refine (len21_any SHa.out).mono ?_
  rintro e wd ⟨rfl, hd⟩
  rw [← hd]
  clear hd
  go_wp2_with fail
  have HA : Hid (Calls Tryz.prog 53 #[.pointer (some ⟨gs, 0, none⟩)] wa (OwnedRet wa 3 1 0 [])) := alive21_any SHa.out (Nat.zero_le _) (fun _ h => absurd h List.not_mem_nil)
  clear SHa
  refine HA.out.mono ?_
  rintro e wf ⟨_, rfl, of, bf⟩
  obtain ⟨Af, cf, rfl, _, _⟩ := Sl.of_own of
  have Bf := Lib.hid (Ba.out.trans (bf.mono Ba.out.size))
  clear of bf Ba HA
  go_wp2_with fail
  refine (works21 wf).mono ?_
  rintro e wg ⟨rfl, bg⟩
  have Bg := Lib.hid (Bf.out.trans (bg.mono Bf.out.size))
  clear bg Bf
  go_wp2
  go_ret
  exact ⟨rfl, Bg.out⟩
end Go.Proofs.YtfnhmbflmifhcaaGreat

/- Is a list in order: walked (topo.Fits), told of lists that are. -/
namespace Go.Proofs.YtfnhmbflmifhcaaGreat
open Go.RowKit

/-- one number more is put into a set -/
theorem put_taken {n : Nat} {ws : List Nat} {F : List Nat} {k x : Nat} (h : WsOk n ws) (hb : ∀ r, bitAt ws r = decide (r ∈ F.take k)) (hx : F[k]? = some x) (hl : x < n) (hn : x ∉ F.take k) :
    newM n ws (x : Int) = true ∧ ∀ r, bitAt (putM n ws (x : Int)) r = decide (r ∈ F.take (k + 1)) := by
  have e : newM n ws (x : Int) = true := by
    unfold newM
    rw [decide_eq_true (show (0 : Int) ≤ (x : Int) by omega), decide_eq_true (show (x : Int) < (n : Int) by omega), Int.toNat_natCast, hb x, decide_eq_false hn]
    rfl
  refine ⟨e, fun r => ?_⟩
  unfold putM
  rw [if_pos e, Int.toNat_natCast, bit_putW h hl, hb r, List.take_add_one, hx]
  rw [Bool.eq_iff_iff]
  simp only [Bool.or_eq_true, decide_eq_true_eq, List.mem_append, Option.toList_some, List.mem_singleton]
  constructor
  · rintro (h | h)
    · exact .inl h
    · exact .inr h.symm
  · rintro (h | h)
    · exact .inl h
    · exact .inr h.symm
set_option maxRecDepth 100000 in
set_option maxHeartbeats 2000000 in
theorem fits_any {w : World} {g n m c : Nat} {R : Nat → Nat → Bool} {F : List Nat} {A : Option Addr} (hR : RelAt w g n R) (hn : n ≤ 65536) (hF : F.length = m) (hmc : m ≤ c) (hm : m ≤ 100000) (hs : Sl w w.heap.size 1 A m (encN F)) (hlt : ∀ i ∈ F, i < n)
    (hap : ∀ i k x y : Nat, F[i]? = some x → F[k]? = some y → i < k → x ≠ y ∧ befR R y x = false) :
    Calls Tryz.prog 59 #[.pointer (some ⟨g, 0, none⟩), .slice A m c] w (RetB w (.bool true)) := by
  have HR := Lib.hid hR
  have HL := Lib.hid (len8_any hR)
  have HS := Lib.hid hs
  have HF := Lib.hid hF
  have HLT := Lib.hid hlt
  have HAP := Lib.hid hap
  have hn2 : Hid (roomM (n : Int) = n) := by unfold roomM; rw [Hid]; omega
  have HN := Lib.hid (new7_any (n : Int) w)
  rw [hn2.out] at HN
  clear hR hs hF hlt hap hn2
  go_enter Tryz.func59, Tryz.ntmps59
  go_wp2_with fail
  refine HL.out.mono ?_
  rintro e wa ⟨rfl, ha⟩
  rw [← ha]
  clear ha HL
  go_wp2_with fail
  refine HN.out.mono ?_
  rintro e w2 ⟨gs, gw, rfl, hM, hg1, hg2, b2⟩
  have M2 := Lib.hid hM
  have B2 := Lib.hid b2
  have hgw := Lib.hid hg2
  clear HN hM hg1 hg2 b2
  go_wp2_with fail
  go_loopw [6, 7, 9, 15] (fun _ _ _ iv wr => ∃ (k : Nat) (ws : List Nat), k ≤ m ∧ iv = .int .i64 k ∧ Hid (MaskAt wr gs gw n ws) ∧ Hid (∀ r, bitAt ws r = decide (r ∈ F.take k)) ∧ Hid (Below w.heap.size w wr)) (fun _ _ _ iv _ => m - (intOf iv).toNat)
  case atStart => exact ⟨0, zeroW n, by omega, rfl, M2.out, Lib.hid (fun r => by rw [zeroW_bit]; simp), B2.out⟩
  case round =>
    clear M2 B2
    obtain ⟨k, ws, hk, rfl, M, hb, B⟩ := hrel
    obtain ⟨wi, rfl⟩ : ∃ wx, wx = wr := ⟨_, rfl⟩
    have hk0 : (0 : Int) ≤ (k : Int) := by omega
    by_cases hlm : k < m
    · have hlk : (k : Int) < (m : Int) := by omega
      obtain ⟨b, o, x, rfl, hbs, hx, y1⟩ := sl_cell (sl_ext HS.out B.out) HF.out hlm
      have HX := Lib.hid hx
      have hxn : Hid (x < n) := HLT.out x (List.mem_of_getElem? hx)
      have hnx : x ∉ F.take k := fun hc => by
        obtain ⟨j, hj, ej⟩ := List.getElem_of_mem hc
        rw [List.getElem_take] at ej
        have hj' : j < k := by rw [List.length_take] at hj; omega
        exact (HAP.out j k x x (by rw [← ej]; exact List.getElem?_eq_getElem _) hx hj').1 rfl
      have PT := Lib.hid (put_taken M.out.ok hb.out hx hxn.out hnx)
      have HP := Lib.hid (put7_any M.out ((x : Nat) : Int))
      clear hx hbs hnx
      go_wp2_with fail
      refine HP.out.mono ?_
      rintro e w3 ⟨rfl, m3, k3⟩
      rw [PT.out.1]
      have M3 := Lib.hid m3
      have B3 := Lib.hid (B.out.trans (k3.below (fun q e => e ▸ hgw.out) B.out.size))
      have HR3 := Lib.hid (HR.out.ext B3.out)
      clear m3 k3 HP M B
      have hkc : (k : Int) ≤ (c : Int) := by omega
      go_wp2_with fail
      go_loopw [9, 28] (fun _ iv wr => ∃ q : Nat, q ≤ k ∧ iv = .int .i64 q ∧ Hid (wr = w3)) (fun _ iv _ => k - (intOf iv).toNat)
      case atStart => exact ⟨0, by omega, rfl, rfl⟩
      case round =>
        obtain ⟨q, hq, rfl, hw⟩ := hrel
        obtain rfl := hw.out
        obtain ⟨w3, rfl⟩ : ∃ wx, wx = wr := ⟨_, rfl⟩
        have hq0 : (0 : Int) ≤ (q : Int) := by omega
        by_cases hlq : q < k
        · have hlqk : (q : Int) < (k : Int) := by omega
          obtain ⟨b', o', y, e', _, hy, y2⟩ := sl_cell (sl_ext HS.out B3.out) HF.out (show q < m by omega)
          cases e'
          have hyn : y < n := HLT.out y (List.mem_of_getElem? hy)
          have HBf := Lib.hid (before8_any HR3.out x y (by have := hxn.out; omega) (by omega))
          rw [(HAP.out q k y x hy HX.out hlq).2] at HBf
          clear hy hyn
          go_wp2_with fail
          refine HBf.out.mono ?_
          rintro e w4 ⟨rfl, h4⟩
          rw [← h4]
          clear h4 HBf y2
          go_wp2_with fail
          go_roundw
          case rel => exact ⟨q + 1, by omega, by go_num, trivial⟩
          case measure => simp [intOf]; omega
        · have hlqk : ¬ (q : Int) < (k : Int) := by omega
          go_wp2_with fail
          go_roundw
          case rel => exact ⟨k + 1, _, by omega, by go_num, M3.out, PT.out.2, B3.out⟩
          case measure => simp [intOf]; omega
    · have hlk : ¬ (k : Int) < (m : Int) := by omega
      go_wp2
      go_ret
      exact ⟨rfl, B.out⟩
end Go.Proofs.YtfnhmbflmifhcaaGreat

/- What is dead keeps its place: plain laws; no program in sight. -/
namespace Go.Proofs.YtfnhmbflmifhcaaGreat
open Go.RowKit

/-- where the lines of a list stand in another one -/
def posP (X Y : List VertV) : List Nat := X.map fun x => posL Y x.1
theorem posP_at {X Y : List VertV} {j : Nat} {x : VertV} (h : X[j]? = some x) : (posP X Y)[j]? = some (posL Y x.1) := by unfold posP; rw [List.getElem?_map, h]; rfl
theorem posP_len (X Y : List VertV) : (posP X Y).length = X.length := List.length_map ..
/-- the first numbers of a list, then 0 -/
def zP (P : List Nat) (j : Nat) : List Nat := P.take j ++ List.replicate (P.length - j) 0
theorem zP_zero (P : List Nat) : zP P 0 = List.replicate P.length 0 := by simp [zP]
theorem zP_all (P : List Nat) : zP P P.length = P := by simp [zP]
theorem zP_len {P : List Nat} {j : Nat} (h : j ≤ P.length) : (zP P j).length = P.length := by simp [zP]; omega
theorem zP_at {P : List Nat} {j : Nat} (h : j < P.length) : (zP P j)[j]? = some 0 := by
  unfold zP
  rw [List.getElem?_append_right (by rw [List.length_take]; omega), List.length_take, Nat.min_eq_left (by omega), Nat.sub_self, List.getElem?_replicate, if_pos (by omega)]
theorem zP_set {P : List Nat} {j p : Nat} (h : P[j]? = some p) : (zP P j).set j p = zP P (j + 1) := by
  have hj : j < P.length := (List.getElem?_eq_some_iff.1 h).1
  unfold zP
  rw [List.set_append_right _ _ (by rw [List.length_take]; omega), List.length_take, Nat.min_eq_left (by omega), Nat.sub_self, show P.length - j = (P.length - (j + 1)) + 1 by omega, List.replicate_succ, List.set_cons_zero, List.take_add_one, h]
  simp
theorem zP_same {P : List Nat} {j : Nat} (h : j < P.length) : (zP P j).set j 0 = zP P j := by
  have e := zP_at h
  obtain ⟨hl, hv⟩ := List.getElem?_eq_some_iff.1 e
  rw [← hv]
  exact List.set_getElem_self hl
theorem posL_before {l : List VertV} {v : VidV} {a : Nat} {y : VertV} (h : a < posL l v) (hy : l[a]? = some y) : y.1 ≠ v := by
  obtain ⟨ha, rfl⟩ := List.getElem?_eq_some_iff.1 hy
  exact of_decide_eq_false (List.not_of_lt_findIdx h)
theorem grL_more (L : List PatV) (p : PatV) : ∃ M, grL L p = L ++ M := by
  unfold grL
  split
  · exact ⟨[p], rfl⟩
  · exact ⟨[], by simp⟩
theorem runG_more (l : List PatV) : ∀ L, ∃ M, runG L l = L ++ M := by
  induction l with
  | nil => exact fun L => ⟨[], by simp [runG]⟩
  | cons p l ih =>
    intro L
    obtain ⟨M, hM⟩ := grL_more L p
    obtain ⟨M', hM'⟩ := ih (grL L p)
    refine ⟨M ++ M', ?_⟩
    show runG (grL L p) l = _
    rw [hM', hM, List.append_assoc]
theorem later_at {L M : List PatV} {f : VidV} {j : Nat} {x : VertV} (h : (linesL L f)[j]? = some x) : laterN L M f j = posL (linesL (L ++ M) f) x.1 := by unfold laterN; rw [h]
/-- what stands ahead stands ahead in the later graph -/
theorem has_later {L M : List PatV} (hG : GrOk L) {f : VidV} {R Q : Nat → Nat → Bool} (hR : ∀ a b, R a b = true ↔ ViaL (stepsN L f) a b) (hQ : ∀ a b, Q a b = true ↔ ViaL (stepsN (L ++ M) f) a b)
    {a b p q : Nat} (hp : (posP (linesL L f) (linesL (L ++ M) f))[a]? = some p) (hq : (posP (linesL L f) (linesL (L ++ M) f))[b]? = some q) (h : R a b = true) : Q p q = true := by
  have e : ∀ {j r : Nat}, (posP (linesL L f) (linesL (L ++ M) f))[j]? = some r → laterN L M f j = r := fun {j r} hj => by
    unfold posP at hj
    rw [List.getElem?_map] at hj
    cases hx : (linesL L f)[j]? with
    | none => rw [hx] at hj; cases hj
    | some x =>
      rw [hx] at hj
      rw [later_at hx]
      exact Option.some.inj hj
  rw [hQ, ← e hp, ← e hq]
  exact via_later hG ((hR _ _).1 h)
theorem line_there {L M : List PatV} (hG : GrOk L) (hM : GrOk (L ++ M)) {f : VidV} {j : Nat} {x : VertV} (h : (linesL L f)[j]? = some x) : ∃ y, (linesL (L ++ M) f)[posL (linesL (L ++ M) f) x.1]? = some y ∧ y.1 = x.1 :=
  posL_get (line_more hG hM (List.mem_of_getElem? h))
/-- the two graphs of the statement -/
theorem two_graphs (l : List PatV) (n : Nat) : ∃ M, runG [] l = runG [] (l.take n) ++ M := by
  obtain ⟨M, hM⟩ := runG_more (l.drop n) (runG [] (l.take n))
  refine ⟨M, ?_⟩
  rw [← hM, ← runG_append, List.take_append_drop]
theorem madeI (n : Nat) : (madeCells (Value.int .i64 0).cells (n * 1)).toList = encN (List.replicate n 0) := by
  apply List.ext_getElem?
  intro j
  simp only [madeCells, encN, Nat.mul_one]
  rcases Nat.lt_or_ge j n with h | h
  · simp [h, Value.cells, Nat.mod_one]
  · rw [List.getElem?_eq_none (by simpa using h), List.getElem?_eq_none (by simpa using h)]
theorem encN_at' {F : List Nat} {j a : Nat} (h : F[j]? = some a) : (encN F)[j]? = some (.int .i64 ((a : Nat) : Int)) := by unfold encN; rw [List.getElem?_map, h]; rfl
theorem encN_set (F : List Nat) (j a : Nat) : encN (F.set j a) = (encN F).set j (.int .i64 ((a : Nat) : Int)) := by unfold encN; rw [List.map_set]
theorem wpList_slicedL {P : Program} {ops : Array Oper} {rest : List Oper} {a : Act} {w w' : World} {Q : Exit → Act → World → Prop} {d : Option Tmp} {ty t : TypeId} {pos : String} {after : Array Edge} {x : Operand} {lo hi mx : Option Operand} {xv v : Value} {lv hv mv : Option Value} (hx : a.eval x = xv) (hl : lo.map a.eval = lv) (hh : hi.map a.eval = hv) (hm : mx.map a.eval = mv) (hr : (Instr.sliceAt t xv lv hv mv).run P w = .ok v w')
    (h : wpList P ops Q rest (a.put d v) w') : wpList P ops Q (⟨d, .slice t x lo hi mx, ty, pos, after, none⟩ :: rest) a w :=
  wpList_plain rfl fun _ hK => by
    unfold Oper.wp execOp
    simp only [hx, hl, hh, hm, Sem.run_bind, hr, Result.andThen_ok, Sem.run_pure]
    exact hK _ _ h
theorem PatsAt.take {w : World} {A : Option Addr} {n c k : Nat} {l : List PatV} (h : PatsAt w A n l) (hk : k ≤ n) : PatsAt w (cutAddr A c 0 4) k (l.take k) := by
  obtain ⟨rows, hr, hs⟩ := h.ex
  have hl := h.len
  have h4 : ∀ r ∈ rows, r.length = 4 := hr.len4
  have hrn : rows.length = n := hr.1.trans hl
  have ht : ∀ r ∈ rows.take k, r.length = 4 := fun r h => h4 r (List.mem_of_mem_take h)
  have hf : ((rows.take k).flatten).length = k * 4 := by rw [flatten_len _ ht, List.length_take, Nat.min_eq_left (by omega)]
  refine ⟨by rw [List.length_take, hl]; omega, rows.take k, ⟨by rw [List.length_take, List.length_take, hr.1], fun j r p h1 h2 => ?_⟩, hf, fun hp => ?_⟩
  · rw [List.getElem?_take] at h1 h2
    split at h1
    · rename_i hlt
      rw [if_pos hlt] at h2
      exact hr.2 j r p h1 h2
    · cases h1
  · obtain ⟨b, o, rfl, hb, hcell⟩ := hs.2 (by omega)
    refine ⟨b, o, ?_, hb, fun j hj => ?_⟩
    · unfold cutAddr
      split
      · rfl
      · simp [Addr.add_mid]
    · have hkn : k * 4 ≤ n * 4 := Nat.mul_le_mul_right _ hk
      have e0 : rows.flatten = (rows.take k).flatten ++ (rows.drop k).flatten := by rw [← List.flatten_append, List.take_append_drop]
      rw [hcell _ (by omega), e0, List.getElem?_append_left (by omega)]
theorem indexVidsL (b o n c k : Nat) (hk : k < n) (w : World) : (Instr.indexAt 50 (.slice (some ⟨b, o, none⟩) n c) (.int .i64 ((k : Nat) : Int))).run Tryz.prog w = .ok (.pointer (some ⟨b, o + k * 3, none⟩)) w := by
  have h0 : (0 : Int) ≤ (k : Int) := by omega
  have h1 : (k : Int) < (n : Int) := by omega
  simp [go_sem, h0, h1]
theorem indexIntsL (b n c k : Nat) (hk : k < n) (w : World) : (Instr.indexAt 97 (.slice (some ⟨b, 0, none⟩) n c) (.int .i64 ((k : Nat) : Int))).run Tryz.prog w = .ok (.pointer (some ⟨b, k, none⟩)) w := by
  have h0 : (0 : Int) ≤ (k : Int) := by omega
  have h1 : (k : Int) < (n : Int) := by omega
  simp [go_sem, h0, h1]
end Go.Proofs.YtfnhmbflmifhcaaGreat

/- What is dead keeps its place: the statement walked. -/
namespace Go.Proofs.YtfnhmbflmifhcaaGreat
open Go.RowKit

theorem fews_atL {l : List PatV} {m : Int} (h : fewsB l m = true) : (l.length : Int) ≤ m := by
  unfold fewsB at h
  rw [Bool.and_eq_true, decide_eq_true_eq] at h
  exact h.1
theorem runG_few (l : List PatV) : (runG [] l).length ≤ l.length := by
  have h : ∀ (l L : List PatV), (runG L l).length ≤ L.length + l.length := by
    intro l
    induction l with
    | nil => intro L; simp [runG]
    | cons p l ih =>
      intro L
      have h1 := ih (grL L p)
      have h2 : (grL L p).length ≤ L.length + 1 := by
        unfold grL
        split <;> simp
      show (runG (grL L p) l).length ≤ _
      rw [List.length_cons]
      omega
  have := h l []
  simpa using this
theorem own_vidsL {w : World} {base n c : Nat} {A : Option Addr} {l : List VidV} (h : w.ownsRow base 43 3 (.slice A n c) n (l.flatMap encV)) (hn : l.length = n) : VidsAt w A n l := by
  obtain ⟨A', c', e, _, hs⟩ := Sl.of_own h
  cases e
  exact ⟨hn, hs⟩
theorem filesL_few {L : List PatV} (hG : GrOk L) (hf : L.length ≤ 400) : (filesL L).length ≤ 80000 := by
  unfold filesL
  rw [List.length_map]
  exact Nat.le_trans (List.length_filter_le _ _) (vertsL_few hG hf)
theorem has21 {w : World} {g n : Nat} {R : Nat → Nat → Bool} (h : RelAt w g n R) (i j : Nat) (hi : i ≤ 65536) {b : Bool} (hb : R i j = b) : Calls Tryz.prog 60 #[.pointer (some ⟨g, 0, none⟩), .int .i64 ((i : Nat) : Int), .int .i64 ((j : Nat) : Int)] w (Ret w (.bool b)) := by
  have := has8_any h ((i : Nat) : Int) ((j : Nat) : Int) (by omega)
  rw [hasR_nat, hb] at this
  exact this
theorem two_mod (q n : Nat) : ((q : Int) % ((n : Int) + 1)) = ((q % (n + 1) : Nat) : Int) := by rw [Int.natCast_emod]; rfl
set_option maxRecDepth 100000 in
set_option maxHeartbeats 16000000 in
theorem linesKeep_walk (w : World) (l : List PatV) (A : Option Addr) (n c : Nat) (hm : n ≤ maxLen) (hnc : n ≤ c) (h : PatsAt w A n l) (kk : Int) (hkk : (Lit.int .u8 kk).wf = true) :
    Calls Tryz.prog 10 #[.slice A n c, .int .u8 kk] w (RetB w (.bool true)) := by
  obtain ⟨fr0, fr1⟩ := u8_bdB hkk
  obtain ⟨q, rfl⟩ := Int.eq_ofNat_of_zero_le fr0
  have H0 := Lib.hid h
  clear h hkk
  go_enter Tryz.func10, Tryz.ntmps10
  have HF := Lib.hid (few20_any l w A n c 14 H0.out hm)
  cases hf : fewsB l 14
  · rw [fewsN_false hf] at HF
    go_wp2_with fail
    refine HF.out.mono ?_
    rintro e w3 ⟨rfl, b3⟩
    have B3 := Lib.hid b3
    clear b3 HF
    go_wp2_with fail
    refine (works21 _).mono ?_
    rintro e w4 ⟨rfl, b4⟩
    have B4 := Lib.hid (B3.out.trans (b4.mono B3.out.size))
    clear b4
    go_wp2
    go_ret
    exact ⟨rfl, B4.out⟩
  · rw [fewsN_true hf] at HF
    have hn14 : n ≤ 14 := by have h1 := fews_atL hf; have h2 := H0.out.len; omega
    have hlen := Lib.hid H0.out.len
    obtain ⟨m, hmq⟩ : ∃ m, m = q % (n + 1) := ⟨_, rfl⟩
    have hmn : m ≤ n := by have := Nat.mod_lt q (show 0 < n + 1 by omega); omega
    have hmod : Int.tmod (q : Int) ((n : Int) + 1) = (m : Int) := by rw [Int.tmod_eq_emod_of_nonneg (by omega), two_mod, hmq]
    have hz : ((n : Int) + 1) ≠ 0 := by omega
    have hm0 : (0 : Int) ≤ (m : Int) := by omega
    replace hmq := Lib.hid hmq
    go_wp2_with fail
    refine HF.out.mono ?_
    rintro e w3 ⟨rfl, b3⟩
    have B3 := Lib.hid b3
    have PT := Lib.hid (H0.out.ext b3)
    have CH := Lib.hid (fun u => run_slice_high patSl (A := A) (n := n) (c := c) (k := m) (by omega) u)
    have HB1 := Lib.hid (build20_any w3 (l.take m) (cutAddr A c 0 4) m c (by unfold maxLen; omega) (PT.out.take hmn))
    clear b3 HF hf H0
    go_wp2_with ((with_reducible refine wpList_slicedL ?_ ?_ ?_ ?_ (CH.out _) ?_); rfl; rfl; rfl; rfl)
    refine HB1.out.mono ?_
    rintro e w4 ⟨F1, ga, rfl, hG1, _, b4⟩
    have G1 := Lib.hid hG1
    have B4 := Lib.hid (B3.out.trans (b4.mono B3.out.size))
    have HB2 := Lib.hid (build20_any w4 l A n c (by unfold maxLen; omega) (PT.out.ext b4))
    clear hG1 b4 HB1 CH B3 PT
    go_wp2_with fail
    refine HB2.out.mono ?_
    rintro e w5 ⟨F2, gb, rfl, hG2, _, b5⟩
    have G2 := Lib.hid hG2
    have G1 := Lib.hid (G1.out.ext b5)
    have B5 := Lib.hid (B4.out.trans (b5.mono B4.out.size))
    clear hG2 b5 HB2 B4
    obtain ⟨M, hM⟩ := two_graphs l m
    have hL1 : (runG [] (l.take m)).length ≤ 300 := by have := runG_few (l.take m); rw [List.length_take] at this; omega
    have hL2 : (runG [] l).length ≤ 300 := by have := runG_few l; have := hlen.out; omega
    rw [hM] at G2 hL2
    clear hM
    generalize runG [] (l.take m) = L at *
    have HFi := Lib.hid (files20_any G1.out (by omega))
    obtain ⟨nf, hnf⟩ : ∃ n, n = (filesL L).length := ⟨_, rfl⟩
    have hnf2 : nf ≤ 80000 := by rw [hnf]; exact Nat.le_trans (filesL_few G1.out.ok (by omega)) (Nat.le_refl _)
    rw [← hnf] at HFi
    replace hnf := Lib.hid hnf
    go_wp2_with fail
    refine HFi.out.mono ?_
    rintro e w6 ⟨_, rfl, o6, b6⟩
    obtain ⟨Af, cf, rfl, _, s6⟩ := Sl.of_own o6
    have VF := Lib.hid (own_vidsL o6 hnf.out.symm)
    have G1 := Lib.hid (G1.out.ext b6)
    have G2 := Lib.hid (G2.out.ext b6)
    have B6 := Lib.hid (B5.out.trans (b6.mono B5.out.size))
    clear o6 b6 s6 HFi B5
    go_wp2_with fail
    have B0 := Lib.hid (Below.refl w6.heap.size w6)
    go_loopw [9, 10, 11, 12, 13, 14, 15, 16, 17, 18, 19] (fun i _ _ _ _ _ _ _ _ _ _ wr => ∃ k : Nat, k ≤ nf ∧ i = .int .i64 k ∧ Hid (Below w6.heap.size w6 wr)) (fun i _ _ _ _ _ _ _ _ _ _ _ => nf - (intOf i).toNat)
    case atStart => exact ⟨0, by omega, rfl, B0.out⟩
    case round =>
      clear B0
      obtain ⟨k, hk, rfl, B⟩ := hrel
      obtain ⟨wi, rfl⟩ : ∃ wx, wx = wr := ⟨_, rfl⟩
      have hk0 : (0 : Int) ≤ (k : Int) := by omega
      by_cases hlt : k < nf
      · have hlk : (k : Int) < (nf : Int) := by omega
        obtain ⟨b, o, f, rfl, hbf, hfk, rf⟩ := (VF.out.ext B.out).at_ hlt
        have RF := Lib.hid (fun (u : World) (hu : Below wi.heap.size wi u) => rangeAt_below rf hu hbf)
        have IX := Lib.hid (fun u => indexVidsL b o nf cf k hlt u)
        have HA := Lib.hid (fun (u : World) (hu : Below wi.heap.size wi u) => lof_any ((G1.out.ext B.out).ext hu) hL1 f)
        have HB := Lib.hid (fun (u : World) (hu : Below wi.heap.size wi u) => lof_any ((G2.out.ext B.out).ext hu) hL2 f)
        have hle := Lib.hid (lines_len G1.out.ok G2.out.ok f)
        have hfw1 := Lib.hid (lines_few G1.out.ok hL1 f).1
        have hfw2 := Lib.hid (lines_few G2.out.ok hL2 f).1
        have hthere := Lib.hid (fun (j : Nat) (x : VertV) (hx : (linesL L f)[j]? = some x) => line_there G1.out.ok G2.out.ok hx)
        have hlater : Hid (∀ (R Q : Nat → Nat → Bool), (∀ a b, R a b = true ↔ ViaL (stepsN L f) a b) → (∀ a b, Q a b = true ↔ ViaL (stepsN (L ++ M) f) a b) → ∀ a b p q, (posP (linesL L f) (linesL (L ++ M) f))[a]? = some p → (posP (linesL L f) (linesL (L ++ M) f))[b]? = some q → R a b = true → Q p q = true) := fun R Q hR hQ a b p q => has_later G1.out.ok hR hQ
        clear rf hbf hfk
        have hcO : ∀ args u, (callFunc 45 args).run Tryz.prog u = .ok (.enter 45 args) u := enters_of Tryz.func45 (by kernel_rfl) rfl
        generalize linesL (L ++ M) f = Y at *
        generalize linesL L f = X at *
        generalize stepsN (L ++ M) f = SM at *
        generalize stepsN L f = SL at *
        go_wp2_with fail
        refine wp_region_held (S := fun w' => Below wi.heap.size wi w') mixedS ?_
        change wpAnyH _ _ _ _ _ _ _ _ wi.drew
        have B4 : Hid (Below wi.heap.size wi wi.drew) := (Below.refl _ _).drew
        generalize wi.drew = w4 at B4 ⊢
        simp only [List.size_toArray, List.length_cons, List.length_nil]
        refine takeV (i := 0) (d := 44) (v := .pointer (some ⟨ga, 0, none⟩)) rfl (by kernel_rfl) (by kernel_rfl) (by kernel_rfl) (fun _ _ _ h => h) rfl (fun _ _ => exMove (v := .pointer (some ⟨ga, 0, none⟩)) rfl) B4.out ?_
        simp only [Act.put, List.setIfInBounds_toArray, List.set_cons_zero, List.set_cons_succ]
        refine takeV (i := 1) (d := 45) (v := .slice (some ⟨b, o, none⟩) nf cf) rfl (by kernel_rfl) (by kernel_rfl) (by kernel_rfl) (fun _ _ _ h => h) rfl (fun _ _ => exMove (v := .slice (some ⟨b, o, none⟩) nf cf) rfl) B4.out ?_
        simp only [Act.put, List.setIfInBounds_toArray, List.set_cons_zero, List.set_cons_succ]
        refine takeV (i := 2) (d := 46) (v := .int .i64 (k : Int)) rfl (by kernel_rfl) (by kernel_rfl) (by kernel_rfl) (fun _ _ _ h => h) rfl (fun _ _ => exMove (v := .int .i64 (k : Int)) rfl) B4.out ?_
        simp only [Act.put, List.setIfInBounds_toArray, List.set_cons_zero, List.set_cons_succ]
        refine takeV (i := 3) (d := 47) (v := .pointer (some ⟨b, o + k * 3, none⟩)) rfl (by kernel_rfl) (by kernel_rfl) (by kernel_rfl) (fun _ _ _ h => h) rfl (fun w' _ => exIndex rfl rfl (IX.out w')) B4.out ?_
        simp only [Act.put, List.setIfInBounds_toArray, List.set_cons_zero, List.set_cons_succ]
        refine takeV (i := 4) (d := 48) (v := .agg (encV f).toArray) rfl (by kernel_rfl) (by kernel_rfl) (by kernel_rfl) (fun _ _ _ h => h) rfl (fun w' h => exMid rfl (RF.out w' h) underVid rfl infoVid) B4.out ?_
        simp only [Act.put, List.setIfInBounds_toArray, List.set_cons_zero, List.set_cons_succ]
        refine takeV (i := 6) (d := 50) (v := .pointer (some ⟨gb, 0, none⟩)) rfl (by kernel_rfl) (by kernel_rfl) (by kernel_rfl) (fun _ _ _ h => h) rfl (fun _ _ => exMove (v := .pointer (some ⟨gb, 0, none⟩)) rfl) B4.out ?_
        simp only [Act.put, List.setIfInBounds_toArray, List.set_cons_zero, List.set_cons_succ]
        refine takeV (i := 7) (d := 51) (v := .slice (some ⟨b, o, none⟩) nf cf) rfl (by kernel_rfl) (by kernel_rfl) (by kernel_rfl) (fun _ _ _ h => h) rfl (fun _ _ => exMove (v := .slice (some ⟨b, o, none⟩) nf cf) rfl) B4.out ?_
        simp only [Act.put, List.setIfInBounds_toArray, List.set_cons_zero, List.set_cons_succ]
        refine takeV (i := 8) (d := 52) (v := .int .i64 (k : Int)) rfl (by kernel_rfl) (by kernel_rfl) (by kernel_rfl) (fun _ _ _ h => h) rfl (fun _ _ => exMove (v := .int .i64 (k : Int)) rfl) B4.out ?_
        simp only [Act.put, List.setIfInBounds_toArray, List.set_cons_zero, List.set_cons_succ]
        refine takeV (i := 9) (d := 53) (v := .pointer (some ⟨b, o + k * 3, none⟩)) rfl (by kernel_rfl) (by kernel_rfl) (by kernel_rfl) (fun _ _ _ h => h) rfl (fun w' _ => exIndex rfl rfl (IX.out w')) B4.out ?_
        simp only [Act.put, List.setIfInBounds_toArray, List.set_cons_zero, List.set_cons_succ]
        refine takeV (i := 10) (d := 54) (v := .agg (encV f).toArray) rfl (by kernel_rfl) (by kernel_rfl) (by kernel_rfl) (fun _ _ _ h => h) rfl (fun w' h => exMid rfl (RF.out w' h) underVid rfl infoVid) B4.out ?_
        simp only [Act.put, List.setIfInBounds_toArray, List.set_cons_zero, List.set_cons_succ]
        refine wpAnyH_all (rs := [5]) (by kernel_rfl) (by simp) ?_
        intro i hi
        simp only [List.mem_cons, List.not_mem_nil, or_false] at hi
        subst hi
        refine wpOp_of rfl rfl (wp_called (args := #[.pointer (some ⟨ga, 0, none⟩), .agg (encV f).toArray]) hcO (by simp only [List.map_toArray, List.map_cons, List.map_nil]; rfl) (HA.out w4 B4.out) ?_)
        rintro e w_1 ⟨gs, R, rfl, s_2, hR, tR, b_5⟩
        have S_3 := Lib.hid s_2
        have HR := Lib.hid hR
        have TR := Lib.hid tR
        clear s_2 hR tR
        refine ⟨_, rfl, ext_trans B4.out b_5, ?_⟩
        simp only [Act.put, List.setIfInBounds_toArray, List.set_cons_zero, List.set_cons_succ]
        have B_6 := Lib.hid (ext_trans B4.out b_5)
        clear B4
        clear b_5
        refine wpAnyH_all (rs := [11]) (by kernel_rfl) (by simp) ?_
        intro i hi
        simp only [List.mem_cons, List.not_mem_nil, or_false] at hi
        subst hi
        refine wpOp_of rfl rfl (wp_called (args := #[.pointer (some ⟨gb, 0, none⟩), .agg (encV f).toArray]) hcO (by simp only [List.map_toArray, List.map_cons, List.map_nil]; rfl) (HB.out w_1 B_6.out) ?_)
        rintro e w_7 ⟨gt, Q, rfl, s_8, hQ, tQ, b_11⟩
        have S_9 := Lib.hid s_8
        have HQ := Lib.hid hQ
        have TQ := Lib.hid tQ
        clear s_8 hQ tQ
        refine ⟨_, rfl, ext_trans B_6.out b_11, ?_⟩
        simp only [Act.put, List.setIfInBounds_toArray, List.set_cons_zero, List.set_cons_succ]
        have B_12 := Lib.hid (ext_trans B_6.out b_11)
        have F_13 := Lib.hid (S_3.out.ext b_11)
        clear B_6 S_3
        clear b_11
        refine takeV (i := 12) (d := 10) (v := .pointer (some ⟨gs, 0, none⟩)) rfl (by kernel_rfl) (by kernel_rfl) (by kernel_rfl) (fun _ _ _ h => h) rfl (fun _ _ => exAssign (v := .pointer (some ⟨gs, 0, none⟩)) rfl) B_12.out ?_
        simp only [Act.put, List.setIfInBounds_toArray, List.set_cons_zero, List.set_cons_succ]
        refine takeV (i := 13) (d := 11) (v := .pointer (some ⟨gt, 0, none⟩)) rfl (by kernel_rfl) (by kernel_rfl) (by kernel_rfl) (fun _ _ _ h => h) rfl (fun _ _ => exAssign (v := .pointer (some ⟨gt, 0, none⟩)) rfl) B_12.out ?_
        simp only [Act.put, List.setIfInBounds_toArray, List.set_cons_zero, List.set_cons_succ]
        refine wpAnyH_done (by kernel_rfl) ?_ _
        have SS := F_13
        have ST := S_9
        have B5 := Lib.hid (B.out.trans (B_12.out.mono B.out.size))
        obtain ⟨w5, rfl⟩ : ∃ wx, wx = w_7 := ⟨_, rfl⟩
        clear F_13 S_9 B_12 B HA HB RF IX hcO
        have hlat : Hid (∀ a b p q, (posP X Y)[a]? = some p → (posP X Y)[b]? = some q → R a b = true → Q p q = true) := hlater.out R Q HR.out HQ.out
        clear hlater HR HQ TR
        have hoQ := Lib.hid (ordR_told TQ.out)
        have hFQ : Hid (∀ i ∈ ordR Q Y.length, i < Y.length) := fun i hi => hoQ.out.1.lt i hi
        have hlQ : Hid ((ordR Q Y.length).length ≤ Y.length) := by
          have h1 := hoQ.out.1.nodup
          have := h1.length_le_of_subset (l₂ := List.range Y.length) fun i hi => List.mem_range.2 (hFQ.out i hi)
          rwa [List.length_range] at this
        obtain ⟨nx, hnx⟩ : ∃ n, n = X.length := ⟨_, rfl⟩
        obtain ⟨ny, hny⟩ : ∃ n, n = Y.length := ⟨_, rfl⟩
        have hxy : nx ≤ ny := by rw [hnx, hny]; exact hle.out
        have hny6 : ny ≤ 60000 := by rw [hny]; exact hfw2.out
        have HL1 := Lib.hid (fun (u : World) (hu : Below w5.heap.size w5 u) => len21_any (SS.out.ext hu))
        have HL2 := Lib.hid (fun (u : World) (hu : Below w5.heap.size w5 u) => len21_any (ST.out.ext hu))
        have HAl := Lib.hid (alive21_any ST.out (by have := hlQ.out; omega) hFQ.out)
        have HRl := Lib.hid (rel21_any ST.out)
        rw [← hnx] at HL1
        rw [← hny] at HL2 HRl
        obtain ⟨na, hna⟩ : ∃ n, n = (liveF Y (ordR Q Y.length)).length := ⟨_, rfl⟩
        have hna6 : na ≤ 60000 := by
          rw [hna]
          exact Nat.le_trans (List.length_filter_le _ _) (by have := hlQ.out; omega)
        rw [← hna] at HAl
        replace hna := Lib.hid hna
        replace hnx := Lib.hid hnx
        replace hny := Lib.hid hny
        have hnlt : ¬ ((ny : Nat) : Int) < ((nx : Nat) : Int) := by omega
        go_wp2_with fail
        refine HRl.out.mono ?_
        rintro e w55 ⟨gr, rfl, hrl, h55⟩
        rw [h55] at hrl ⊢
        have RL := Lib.hid hrl
        clear h55 hrl HRl
        go_wp2_with fail
        refine HAl.out.mono ?_
        rintro e w7 ⟨_, rfl, o7, b7⟩
        obtain ⟨Aa, ca, rfl, hac, s7⟩ := Sl.of_own o7
        have HFt := Lib.hid (fits_any (RL.out.ext b7) (by omega) hna.out.symm hac (by omega) s7 (fun i hi => by rw [hny.out]; exact hFQ.out i (List.mem_filter.1 (show i ∈ List.filter _ _ from hi)).1) (fun i k x y hi hk hik => ord_fits (by rw [hny.out] at *; exact TQ.out) hi hk hik))
        have B7 := Lib.hid b7
        clear o7 s7 b7 HAl RL hac
        go_wp2_with fail
        refine HFt.out.mono ?_
        rintro e w8 ⟨rfl, b8⟩
        have B8 := Lib.hid (ext_trans B7.out b8)
        clear b8 HFt B7
        go_wp2_with fail
        refine (HL2.out w8 B8.out).mono ?_
        rintro e w9 ⟨rfl, h9⟩
        rw [← h9]
        clear h9
        go_wp2_with fail
        refine (HL1.out w8 B8.out).mono ?_
        rintro e w9 ⟨rfl, h9⟩
        rw [← h9]
        clear h9
        have hinfo : (Tryz.prog.info? 3).map (fun i => (i.zero, i.size, i.bytes)) = some (some (.int .i64 0), 1, 8) := by kernel_rfl
        obtain ⟨ti, hti, hzz⟩ := Option.map_eq_some_iff.1 hinfo
        simp only [Prod.mk.injEq] at hzz
        obtain ⟨htz, htsz, htby⟩ := hzz
        clear hinfo
        have hnx6 : nx ≤ 60000 := by omega
        go_wp2_with fail
        refine (HL1.out w8 B8.out).mono ?_
        rintro e w9 ⟨rfl, h9⟩
        rw [← h9]
        clear h9
        go_wp2_with (at_make; refine wpList_make_full _ rfl _ _ 97 rfl w8.heap.size 3 ti (.int .i64 0) 1 Tryz.underlying97 hti htz htsz _ _ _ _ nx (by rfl) (by rfl) rfl rfl (by rw [htby]; omega) (by unfold maxLen; omega) (Nat.le_refl _) ?_; intro w9 own9 gr9)
        rw [madeI] at own9
        have B9 : Hid (Below w8.heap.size w8 w9) := ⟨gr9.os, gr9.tape, gr9.output, gr9.size, fun k hk => gr9.block k hk (by simp)⟩
        clear gr9 hti htz htsz htby ti
        obtain ⟨gz, hgz⟩ : ∃ g, g = w8.heap.size := ⟨_, rfl⟩
        rw [← hgz] at own9 ⊢
        have hPl : Hid ((posP X Y).length = nx) := by rw [Hid, posP_len]; exact hnx.out.symm
        have O9 : Hid (w9.ownsRow gz 3 1 (.slice (some ⟨gz, 0, none⟩) nx nx) nx (encN (zP (posP X Y) 0))) := by rw [Hid, zP_zero, hPl.out]; exact own9
        replace hgz := Lib.hid hgz
        have S8 := Lib.hid (SS.out.ext B8.out)
        have T8 := Lib.hid (ST.out.ext B8.out)
        have B58 := Lib.hid (B5.out.trans (B8.out.mono B5.out.size))
        have HL1' := Lib.hid (fun (u : World) (hu : Below w8.heap.size w8 u) => HL1.out u (ext_trans B8.out hu))
        have HL2' := Lib.hid (fun (u : World) (hu : Below w8.heap.size w8 u) => HL2.out u (ext_trans B8.out hu))
        clear own9 HL1 HL2 B8 SS ST B5 hoQ hFQ hlQ hna hna6
        go_wp2_with fail
        go_loopw [13, 14, 15, 16, 17] (fun iv _ _ _ _ wr => ∃ j : Nat, j ≤ nx ∧ iv = .int .i64 j ∧ Hid (wr.ownsRow gz 3 1 (.slice (some ⟨gz, 0, none⟩) nx nx) nx (encN (zP (posP X Y) j))) ∧ Hid (Below w8.heap.size w8 wr)) (fun iv _ _ _ _ _ => nx - (intOf iv).toNat)
        case atStart => exact ⟨0, by omega, rfl, O9.out, B9.out⟩
        case round =>
          clear O9 B9
          obtain ⟨j, hj, rfl, OW, BB⟩ := hrel
          obtain ⟨wj, rfl⟩ : ∃ wx, wx = wr := ⟨_, rfl⟩
          have hj0 : (0 : Int) ≤ (j : Int) := by omega
          by_cases hjl : j < nx
          · have hjlk : (j : Int) < (nx : Int) := by omega
            obtain ⟨x, hx⟩ : ∃ x, X[j]? = some x := ⟨_, List.getElem?_eq_getElem (by have := hnx.out; omega)⟩
            obtain ⟨yp, hyp, exy⟩ := hthere.out j x hx
            have hpj := Lib.hid (posP_at (Y := Y) hx)
            have hpY : posL Y x.1 < ny := by rw [hny.out]; exact (List.getElem?_eq_some_iff.1 hyp).1
            have hbefore := Lib.hid (fun a y (ha : a < posL Y x.1) (hy : Y[a]? = some y) => posL_before ha hy)
            obtain ⟨pj, hpj2⟩ : ∃ p, p = posL Y x.1 := ⟨_, rfl⟩
            rw [← hpj2] at hyp hpj hpY hbefore
            clear hpj2
            have HYP := Lib.hid hyp
            have EXY := Lib.hid exy
            have HV := Lib.hid (line21_any (S8.out.ext BB.out) (j : Int))
            rw [lineI_some hx] at HV
            clear hyp exy hx
            go_wp2_with fail
            refine (HL1'.out wj BB.out).mono ?_
            rintro e wk ⟨rfl, hk9⟩
            rw [← hk9]
            clear hk9
            go_wp2_with fail
            refine HV.out.mono ?_
            rintro e wv ⟨rfl, bv⟩
            have KX : Hid (Blk ((wv.alloc (.cells zeroX 46)).setRow wv.heap.size (encX x).toArray) wv.heap.size 46 (encX x).toArray) := (Blk.new _ _ _).row _
            have BN : Hid (Below wv.heap.size wv ((wv.alloc (.cells zeroX 46)).setRow wv.heap.size (encX x).toArray)) := below_setRow (below_new wv _) (Nat.le_refl _) _
            go_wp2_with (first
              | (refine wpList_alloced (allocVert _) ?_)
              | (refine wpList_store_row rfl 46 _ _ (by rfl) wv.heap.size (encX x).toArray (by rfl) (by rfl) _ _ (Blk.new _ _ _) infoVert rfl (encX_all _) ?_))
            have OX : Hid (((wv.alloc (.cells zeroX 46)).setRow wv.heap.size (encX x).toArray).ownsRow gz 3 1 (.slice (some ⟨gz, 0, none⟩) nx nx) nx (encN ((zP (posP X Y) j).set j 0))) := by
              rw [Hid, zP_same (by rw [hPl.out]; exact hjl)]
              exact own_ext OW.out (ext_trans bv BN.out)
            have BX := Lib.hid (BB.out.trans ((ext_trans bv BN.out).mono BB.out.size))
            clear bv BN OW BB HV
            generalize ((wv.alloc (.cells zeroX 46)).setRow wv.heap.size (encX x).toArray) = wa at *
            generalize wv.heap.size = gx at *
            have hgetj : Hid (∀ a : Nat, ((zP (posP X Y) j).set j a)[j]? = some a) := fun a => by
              rw [List.getElem?_set_self (by rw [zP_len (by rw [hPl.out]; exact hj), hPl.out]; exact hjl)]
            go_loopw [16, 17] (fun _ _ wr => ∃ a : Nat, a ≤ pj ∧ Hid (wr.cell? ⟨gz, j, none⟩ = some (.int .i64 ((a : Nat) : Int))) ∧ Hid (wr.ownsRow gz 3 1 (.slice (some ⟨gz, 0, none⟩) nx nx) nx (encN ((zP (posP X Y) j).set j a))) ∧ Hid (Blk wr gx 46 (encX x).toArray) ∧ Hid (Below w8.heap.size w8 wr)) (fun _ _ wr => pj - (intOf ((wr.cell? ⟨gz, j, none⟩).getD (.int .i64 0))).toNat)
            case atStart => exact ⟨0, Nat.zero_le _, (OX.out.cellAt j (by omega)).trans (encN_at' (hgetj.out 0)), OX.out, KX.out, BX.out⟩
            case round =>
              clear OX KX BX
              obtain ⟨a, ha, YC, OW, KX, BB⟩ := hrel
              obtain ⟨wi, rfl⟩ : ∃ wx, wx = wr := ⟨_, rfl⟩
              have ha0 : (0 : Int) ≤ (a : Int) := by omega
              obtain ⟨ya, hya⟩ : ∃ y, Y[a]? = some y := ⟨_, List.getElem?_eq_getElem (by have := hny.out; omega)⟩
              have HC := Lib.hid (fun (u : World) (hu : Below wi.heap.size wi u) => ((own_ext OW.out hu).cellAt j (by omega)).trans (encN_at' (hgetj.out a)))
              have HLz := Lib.hid (fun (u : World) (hu : Below wi.heap.size wi u) => HL2'.out u (BB.out.trans (hu.mono BB.out.size)))
              have IX := Lib.hid (fun u => indexIntsL gz nx nx j hjl u)
              have LT : Hid (∀ u : World, (binOp .lss 3 (.int .i64 ((a : Nat) : Int)) (.int .i64 ((ny : Nat) : Int))).run Tryz.prog u = .ok (.bool true) u) := fun u => by rw [lssN, decide_eq_true (by omega)]
              have hcL : ∀ args u, (callFunc 47 args).run Tryz.prog u = .ok (.enter 47 args) u := enters_of Tryz.func47 (by kernel_rfl) rfl
              go_wp2_with fail
              refine wp_region_held (S := fun w' => Below wi.heap.size wi w') mixedS ?_
              change wpAnyH _ _ _ _ _ _ _ _ wi.drew
              have B4 : Hid (Below wi.heap.size wi wi.drew) := (Below.refl _ _).drew
              generalize wi.drew = w4 at B4 ⊢
              simp only [List.size_toArray, List.length_cons, List.length_nil]
              refine takeV (i := 0) (d := 84) (v := .slice (some ⟨gz, 0, none⟩) nx nx) rfl (by kernel_rfl) (by kernel_rfl) (by kernel_rfl) (fun _ _ _ h => h) rfl (fun _ _ => exMove (v := .slice (some ⟨gz, 0, none⟩) nx nx) rfl) B4.out ?_
              simp only [Act.put, List.setIfInBounds_toArray, List.set_cons_zero, List.set_cons_succ]
              refine takeV (i := 1) (d := 85) (v := .int .i64 ((j : Nat) : Int)) rfl (by kernel_rfl) (by kernel_rfl) (by kernel_rfl) (fun _ _ _ h => h) rfl (fun _ _ => exMove (v := .int .i64 ((j : Nat) : Int)) rfl) B4.out ?_
              simp only [Act.put, List.setIfInBounds_toArray, List.set_cons_zero, List.set_cons_succ]
              refine takeV (i := 2) (d := 86) (v := .pointer (some ⟨gz, j, none⟩)) rfl (by kernel_rfl) (by kernel_rfl) (by kernel_rfl) (fun _ _ _ h => h) rfl (fun w' _ => exIndex rfl rfl (IX.out w')) B4.out ?_
              simp only [Act.put, List.setIfInBounds_toArray, List.set_cons_zero, List.set_cons_succ]
              refine takeV (i := 3) (d := 87) (v := .int .i64 ((a : Nat) : Int)) rfl (by kernel_rfl) (by kernel_rfl) (by kernel_rfl) (fun _ _ _ h => h) rfl (fun w' h => exLoad rfl (loadIntC gz j w' _ (HC.out w' h))) B4.out ?_
              simp only [Act.put, List.setIfInBounds_toArray, List.set_cons_zero, List.set_cons_succ]
              refine takeV (i := 4) (d := 88) (v := .pointer (some ⟨gt, 0, none⟩)) rfl (by kernel_rfl) (by kernel_rfl) (by kernel_rfl) (fun _ _ _ h => h) rfl (fun _ _ => exMove (v := .pointer (some ⟨gt, 0, none⟩)) rfl) B4.out ?_
              simp only [Act.put, List.setIfInBounds_toArray, List.set_cons_zero, List.set_cons_succ]
              refine wpAnyH_all (rs := [5]) (by kernel_rfl) (by simp) ?_
              intro i hi
              simp only [List.mem_cons, List.not_mem_nil, or_false] at hi
              subst hi
              refine wpOp_of rfl rfl (wp_called (args := #[.pointer (some ⟨gt, 0, none⟩)]) hcL (by simp only [List.map_toArray, List.map_cons, List.map_nil]; rfl) (HLz.out w4 B4.out) ?_)
              rintro e w_1 ⟨rfl, rfl⟩
              refine ⟨_, rfl, B4.out, ?_⟩
              simp only [Act.put, List.setIfInBounds_toArray, List.set_cons_zero, List.set_cons_succ]
              refine takeV (i := 6) (d := 90) (v := .bool true) rfl (by kernel_rfl) (by kernel_rfl) (by kernel_rfl) (fun _ _ _ h => h) rfl (fun w' _ => exBin rfl rfl (gdLss _ _ _ _ _) (LT.out w')) B4.out ?_
              simp only [Act.put, List.setIfInBounds_toArray, List.set_cons_zero, List.set_cons_succ]
              refine wpAnyH_done (by kernel_rfl) ?_ _
              have OW5 := Lib.hid (own_ext OW.out B4.out)
              have KX5 := Lib.hid (KX.out.ext B4.out)
              have B5 := Lib.hid (BB.out.trans (B4.out.mono BB.out.size))
              obtain ⟨w5, rfl⟩ : ∃ wx, wx = w4 := ⟨_, rfl⟩
              clear OW KX BB HC HLz LT hcL B4
              have y1 : w5.cell? ⟨gz, j, none⟩ = some (.int .i64 ((a : Nat) : Int)) := (OW5.out.cellAt j (by omega)).trans (encN_at' (hgetj.out a))
              have HVt := Lib.hid (line21_any (T8.out.ext B5.out) (a : Int))
              rw [lineI_some hya] at HVt
              go_wp2_with fail
              refine HVt.out.mono ?_
              rintro e wv ⟨rfl, bv⟩
              have KY : Hid (Blk ((wv.alloc (.cells zeroX 46)).setRow wv.heap.size (encX ya).toArray) wv.heap.size 46 (encX ya).toArray) := (Blk.new _ _ _).row _
              have BN : Hid (Below wv.heap.size wv ((wv.alloc (.cells zeroX 46)).setRow wv.heap.size (encX ya).toArray)) := below_setRow (below_new wv _) (Nat.le_refl _) _
              have OW6 := Lib.hid (own_ext OW5.out (ext_trans bv BN.out))
              have KX6 := Lib.hid (KX5.out.ext (ext_trans bv BN.out))
              have B6' := Lib.hid (B5.out.trans ((ext_trans bv BN.out).mono B5.out.size))
              go_upto_region 19 with (first
                | (refine wpList_alloced (allocVert _) ?_)
                | (refine wpList_store_row rfl 46 _ _ (by rfl) wv.heap.size (encX ya).toArray (by rfl) (by rfl) _ _ (Blk.new _ _ _) infoVert rfl (encX_all _) ?_))
              clear bv BN OW5 KX5 B5 HVt y1
              generalize ((wv.alloc (.cells zeroX 46)).setRow wv.heap.size (encX ya).toArray) = w6x at *
              generalize wv.heap.size = gy at *
              have RY := Lib.hid (x_vid20 (blk_range21 KY.out))
              have RX := Lib.hid (x_vid20 (blk_range21 KX6.out))
              have y2 : w6x.cell? ⟨gz, j, none⟩ = some (.int .i64 ((a : Nat) : Int)) := (OW6.out.cellAt j (by omega)).trans (encN_at' (hgetj.out a))
              have f2 : w6x.frozen? ⟨gz, j, none⟩ = false := OW6.out.frozenAt j
              by_cases hap : a = pj
              · have hyx : ya.1 = x.1 := by
                  rw [hap, HYP.out] at hya
                  rw [← Option.some.inj hya]
                  exact EXY.out
                have EQ : ∀ u : World, (binOp .eql 43 (.agg (encV ya.1).toArray) (.agg (encV x.1).toArray)).run Tryz.prog u = .ok (.bool true) u := fun u => by rw [eqlV, decide_eq_true hyx]
                have OZ : Hid (w6x.ownsRow gz 3 1 (.slice (some ⟨gz, 0, none⟩) nx nx) nx (encN (zP (posP X Y) (j + 1)))) := by
                  rw [Hid, ← zP_set hpj.out, ← hap]
                  exact OW6.out
                clear hap hyx hya OW6
                go_wp2_with (first
                  | (refine wpList_load_mid rfl 43 _ (by rfl) gy 0 (by rfl) _ _ RY.out underVid rfl infoVid ?_)
                  | (refine wpList_load_mid rfl 43 _ (by rfl) gx 0 (by rfl) _ _ RX.out underVid rfl infoVid ?_))
                go_roundw
                case rel => exact ⟨j + 1, by omega, by go_num, OZ.out, B6'.out⟩
                case measure => simp [intOf]; omega
              · have hne : ya.1 ≠ x.1 := hbefore.out a ya (by omega) hya
                have EQ : ∀ u : World, (binOp .eql 43 (.agg (encV ya.1).toArray) (.agg (encV x.1).toArray)).run Tryz.prog u = .ok (.bool false) u := fun u => by rw [eqlV, decide_eq_false hne]
                have OZ : Hid ((w6x.setCell ⟨gz, j, none⟩ (.int .i64 ((a : Int) + 1))).ownsRow gz 3 1 (.slice (some ⟨gz, 0, none⟩) nx nx) nx (encN ((zP (posP X Y) j).set j (a + 1)))) := by
                  have := (OW6.out.stored j (.int .i64 ((a : Int) + 1))).1
                  rw [Hid]
                  rw [show (zP (posP X Y) j).set j (a + 1) = ((zP (posP X Y) j).set j a).set j (a + 1) by rw [List.set_set], encN_set]
                  simpa using this
                have KZ : Hid (Blk (w6x.setCell ⟨gz, j, none⟩ (.int .i64 ((a : Int) + 1))) gx 46 (encX x).toArray) := KX6.out.far (p := ⟨gz, j, none⟩) (fun e => blk_not_own KX6.out (by decide) OW6.out (show some gz = some gx by rw [show gx = gz from e])) _
                have BZ : Hid (Below w8.heap.size w8 (w6x.setCell ⟨gz, j, none⟩ (.int .i64 ((a : Int) + 1)))) := B6'.out.setCell (p := ⟨gz, j, none⟩) (by show w8.heap.size ≤ gz; rw [hgz.out]; exact Nat.le_refl _) _
                have YZ : Hid ((w6x.setCell ⟨gz, j, none⟩ (.int .i64 ((a : Int) + 1))).cell? ⟨gz, j, none⟩ = some (.int .i64 (((a + 1 : Nat) : Nat) : Int))) := (OZ.out.cellAt j (by omega)).trans (encN_at' (hgetj.out (a + 1)))
                have hlt' : a + 1 ≤ pj := by omega
                clear hap hne hya
                go_wp2_with (first
                  | (refine wpList_load_mid rfl 43 _ (by rfl) gy 0 (by rfl) _ _ RY.out underVid rfl infoVid ?_)
                  | (refine wpList_load_mid rfl 43 _ (by rfl) gx 0 (by rfl) _ _ RX.out underVid rfl infoVid ?_))
                clear OW6 KX6 B6' y2 f2 EQ RY RX
                go_roundw
                case rel => exact ⟨a + 1, hlt', YZ.out, OZ.out, KZ.out, BZ.out⟩
                case measure => rw [YZ.out, YC.out]; simp [intOf]; omega
          · have hjlk : ¬ (j : Int) < (nx : Int) := by omega
            have hjn : j = nx := by omega
            have OWP : Hid (wj.ownsRow gz 3 1 (.slice (some ⟨gz, 0, none⟩) nx nx) nx (encN (posP X Y))) := by
              have := OW.out
              rw [hjn, ← hPl.out, zP_all, hPl.out] at this
              exact this
            have S9 := Lib.hid (S8.out.ext BB.out)
            have T9 := Lib.hid (T8.out.ext BB.out)
            have HL9 := Lib.hid (fun (u : World) (hu : Below wj.heap.size wj u) => HL1'.out u (BB.out.trans (hu.mono BB.out.size)))
            have B59 := Lib.hid (B58.out.trans (BB.out.mono B58.out.size))
            have HRs := Lib.hid (fun (u : World) (hu : Below wj.heap.size wj u) => rel21_any (S9.out.ext hu))
            have HRt := Lib.hid (fun (u : World) (hu : Below wj.heap.size wj u) => rel21_any (T9.out.ext hu))
            rw [← hnx.out] at HRs
            rw [← hny.out] at HRt
            have hpy : Hid (∀ a p, (posP X Y)[a]? = some p → p < ny) := fun a p hp => by
              unfold posP at hp
              rw [List.getElem?_map] at hp
              cases hx : X[a]? with
              | none => rw [hx] at hp; cases hp
              | some x =>
                rw [hx] at hp
                obtain ⟨y, hy, _⟩ := hthere.out a x hx
                have := (List.getElem?_eq_some_iff.1 hy).1
                rw [← Option.some.inj hp, hny.out]
                exact this
            clear OW S8 T8 hjn HL1' HL2' B58 S9 T9
            go_wp2_with fail
            refine (HL9.out wj (Below.refl _ _)).mono ?_
            rintro e wk ⟨rfl, hk9⟩
            rw [← hk9]
            clear hk9
            go_wp2_with fail
            have BJ := Lib.hid (Below.refl wj.heap.size wj)
            go_loopw [18, 19] (fun iv _ wr => ∃ j2 : Nat, j2 ≤ nx ∧ iv = .int .i64 j2 ∧ Hid (Below wj.heap.size wj wr)) (fun iv _ _ => nx - (intOf iv).toNat)
            case atStart => exact ⟨0, by omega, rfl, BJ.out⟩
            case round =>
              clear BJ BB
              obtain ⟨j2, hj2, rfl, BJ⟩ := hrel
              obtain ⟨wl, rfl⟩ : ∃ wx, wx = wr := ⟨_, rfl⟩
              have hj20 : (0 : Int) ≤ (j2 : Int) := by omega
              by_cases hj2l : j2 < nx
              · have hj2k : (j2 : Int) < (nx : Int) := by omega
                go_wp2_with fail
                refine (HL9.out wl BJ.out).mono ?_
                rintro e wk ⟨rfl, hk9⟩
                rw [← hk9]
                clear hk9
                go_wp2_with fail
                go_loopw [19] (fun iv wr => ∃ m2 : Nat, m2 ≤ nx ∧ iv = .int .i64 m2 ∧ Hid (Below wj.heap.size wj wr)) (fun iv _ => nx - (intOf iv).toNat)
                case atStart => exact ⟨0, by omega, rfl, BJ.out⟩
                case round =>
                  clear BJ
                  obtain ⟨m2, hm2, rfl, B⟩ := hrel
                  obtain ⟨wi, rfl⟩ : ∃ wx, wx = wr := ⟨_, rfl⟩
                  have hm20 : (0 : Int) ≤ (m2 : Int) := by omega
                  by_cases hm2l : m2 < nx
                  · have hm2k : (m2 : Int) < (nx : Int) := by omega
                    obtain ⟨p2, hp2⟩ : ∃ p, (posP X Y)[j2]? = some p := ⟨_, List.getElem?_eq_getElem (by rw [hPl.out]; exact hj2l)⟩
                    obtain ⟨r2, hr2⟩ : ∃ p, (posP X Y)[m2]? = some p := ⟨_, List.getElem?_eq_getElem (by rw [hPl.out]; exact hm2l)⟩
                    have hp2y := hpy.out _ _ hp2
                    have CJ := Lib.hid (fun (u : World) (hu : Below wi.heap.size wi u) => ((own_ext OWP.out (ext_trans B.out hu)).cellAt j2 (by omega)).trans (encN_at' hp2))
                    have CM := Lib.hid (fun (u : World) (hu : Below wi.heap.size wi u) => ((own_ext OWP.out (ext_trans B.out hu)).cellAt m2 (by omega)).trans (encN_at' hr2))
                    have IJ := Lib.hid (fun u => indexIntsL gz nx nx j2 hj2l u)
                    have IM := Lib.hid (fun u => indexIntsL gz nx nx m2 hm2l u)
                    have HRs := Lib.hid (fun (u : World) (hu : Below wi.heap.size wi u) => HRs.out u (ext_trans B.out hu))
                    have HRt := Lib.hid (fun (u : World) (hu : Below wi.heap.size wi u) => HRt.out u (ext_trans B.out hu))
                    have hQw := Lib.hid (hlat.out j2 m2 p2 r2 hp2 hr2)
                    go_wp2_with fail
                    refine (HL9.out wi B.out).mono ?_
                    rintro e wk ⟨rfl, hk9⟩
                    rw [← hk9]
                    clear hk9 hp2 hr2
                    go_wp2_with fail
                    refine wp_region_held (S := fun w' => Below wi.heap.size wi w') mixedS ?_
                    change wpAnyH _ _ _ _ _ _ _ _ wi.drew
                    have B4 : Hid (Below wi.heap.size wi wi.drew) := (Below.refl _ _).drew
                    generalize wi.drew = w4 at B4 ⊢
                    simp only [List.size_toArray, List.length_cons, List.length_nil]
                    have hcR : ∀ args u, (callFunc 48 args).run Tryz.prog u = .ok (.enter 48 args) u := enters_of Tryz.func48 (by kernel_rfl) rfl
                    have hcH : ∀ args u, (callFunc 60 args).run Tryz.prog u = .ok (.enter 60 args) u := enters_of Tryz.func60 (by kernel_rfl) rfl
                    cases hRb : R j2 m2
                    · have hRv := Lib.hid hRb
                      clear hRb hQw
                      refine takeV (i := 0) (d := 123) (v := .pointer (some ⟨gs, 0, none⟩)) rfl (by kernel_rfl) (by kernel_rfl) (by kernel_rfl) (fun _ _ _ h => h) rfl (fun _ _ => exMove (v := .pointer (some ⟨gs, 0, none⟩)) rfl) B4.out ?_
                      simp only [Act.put, List.setIfInBounds_toArray, List.set_cons_zero, List.set_cons_succ]
                      refine takeV (i := 2) (d := 125) (v := .int .i64 ((j2 : Nat) : Int)) rfl (by kernel_rfl) (by kernel_rfl) (by kernel_rfl) (fun _ _ _ h => h) rfl (fun _ _ => exMove (v := .int .i64 ((j2 : Nat) : Int)) rfl) B4.out ?_
                      simp only [Act.put, List.setIfInBounds_toArray, List.set_cons_zero, List.set_cons_succ]
                      refine takeV (i := 3) (d := 126) (v := .int .i64 ((m2 : Nat) : Int)) rfl (by kernel_rfl) (by kernel_rfl) (by kernel_rfl) (fun _ _ _ h => h) rfl (fun _ _ => exMove (v := .int .i64 ((m2 : Nat) : Int)) rfl) B4.out ?_
                      simp only [Act.put, List.setIfInBounds_toArray, List.set_cons_zero, List.set_cons_succ]
                      refine wpAnyH_all (rs := [1]) (by kernel_rfl) (by simp) ?_
                      intro i hi
                      simp only [List.mem_cons, List.not_mem_nil, or_false] at hi
                      subst hi
                      refine wpOp_of rfl rfl (wp_called (args := #[.pointer (some ⟨gs, 0, none⟩)]) hcR (by simp only [List.map_toArray, List.map_cons, List.map_nil]; rfl) (HRs.out w4 B4.out) ?_)
                      rintro e w_1 ⟨gr_2, rfl, q_3, h_5⟩
                      rw [h_5] at q_3 ⊢
                      have R_4 := Lib.hid q_3
                      clear h_5 q_3
                      refine ⟨_, rfl, B4.out, ?_⟩
                      simp only [Act.put, List.setIfInBounds_toArray, List.set_cons_zero, List.set_cons_succ]
                      refine wpAnyH_all (rs := [4]) (by kernel_rfl) (by simp) ?_
                      intro i hi
                      simp only [List.mem_cons, List.not_mem_nil, or_false] at hi
                      subst hi
                      refine wpOp_of rfl rfl (wp_called (args := #[.pointer (some ⟨gr_2, 0, none⟩), .int .i64 ((j2 : Nat) : Int), .int .i64 ((m2 : Nat) : Int)]) hcH (by simp only [List.map_toArray, List.map_cons, List.map_nil]; rfl) (has21 R_4.out j2 m2 (by omega) hRv.out) ?_)
                      rintro e w_6 ⟨rfl, rfl⟩
                      refine ⟨_, rfl, B4.out, ?_⟩
                      simp only [Act.put, List.setIfInBounds_toArray, List.set_cons_zero, List.set_cons_succ]
                      refine takeV (i := 5) (d := 128) (v := .bool false) rfl (by kernel_rfl) (by kernel_rfl) (by kernel_rfl) (fun _ _ _ h => h) rfl (fun _ _ => exMove (v := .bool false) rfl) B4.out ?_
                      simp only [Act.put, List.setIfInBounds_toArray, List.set_cons_zero, List.set_cons_succ]
                      refine takeSkip (i := 6) (d := 129) rfl (by kernel_rfl) (by kernel_rfl) (by kernel_rfl) (fun _ _ _ h => h) rfl B4.out ?_
                      simp only [Act.put, List.setIfInBounds_toArray, List.set_cons_zero, List.set_cons_succ]
                      refine takeSkip (i := 7) (d := 130) rfl (by kernel_rfl) (by kernel_rfl) (by kernel_rfl) (fun _ _ _ h => h) rfl B4.out ?_
                      simp only [Act.put, List.setIfInBounds_toArray, List.set_cons_zero, List.set_cons_succ]
                      refine takeSkip (i := 8) (d := 131) rfl (by kernel_rfl) (by kernel_rfl) (by kernel_rfl) (fun _ _ _ h => h) rfl B4.out ?_
                      simp only [Act.put, List.setIfInBounds_toArray, List.set_cons_zero, List.set_cons_succ]
                      refine takeSkip (i := 9) (d := 132) rfl (by kernel_rfl) (by kernel_rfl) (by kernel_rfl) (fun _ _ _ h => h) rfl B4.out ?_
                      simp only [Act.put, List.setIfInBounds_toArray, List.set_cons_zero, List.set_cons_succ]
                      refine takeSkip (i := 10) (d := 133) rfl (by kernel_rfl) (by kernel_rfl) (by kernel_rfl) (fun _ _ _ h => h) rfl B4.out ?_
                      simp only [Act.put, List.setIfInBounds_toArray, List.set_cons_zero, List.set_cons_succ]
                      refine takeSkip (i := 11) (d := 134) rfl (by kernel_rfl) (by kernel_rfl) (by kernel_rfl) (fun _ _ _ h => h) rfl B4.out ?_
                      simp only [Act.put, List.setIfInBounds_toArray, List.set_cons_zero, List.set_cons_succ]
                      refine takeSkip (i := 12) (d := 135) rfl (by kernel_rfl) (by kernel_rfl) (by kernel_rfl) (fun _ _ _ h => h) rfl B4.out ?_
                      simp only [Act.put, List.setIfInBounds_toArray, List.set_cons_zero, List.set_cons_succ]
                      refine takeSkip (i := 13) (d := 136) rfl (by kernel_rfl) (by kernel_rfl) (by kernel_rfl) (fun _ _ _ h => h) rfl B4.out ?_
                      simp only [Act.put, List.setIfInBounds_toArray, List.set_cons_zero, List.set_cons_succ]
                      refine takeSkip (i := 14) (d := 137) rfl (by kernel_rfl) (by kernel_rfl) (by kernel_rfl) (fun _ _ _ h => h) rfl B4.out ?_
                      simp only [Act.put, List.setIfInBounds_toArray, List.set_cons_zero, List.set_cons_succ]
                      refine takeSkip (i := 15) (d := 138) rfl (by kernel_rfl) (by kernel_rfl) (by kernel_rfl) (fun _ _ _ h => h) rfl B4.out ?_
                      simp only [Act.put, List.setIfInBounds_toArray, List.set_cons_zero, List.set_cons_succ]
                      refine takeSkip (i := 16) (d := 139) rfl (by kernel_rfl) (by kernel_rfl) (by kernel_rfl) (fun _ _ _ h => h) rfl B4.out ?_
                      simp only [Act.put, List.setIfInBounds_toArray, List.set_cons_zero, List.set_cons_succ]
                      refine takeSkip (i := 17) (d := 140) rfl (by kernel_rfl) (by kernel_rfl) (by kernel_rfl) (fun _ _ _ h => h) rfl B4.out ?_
                      simp only [Act.put, List.setIfInBounds_toArray, List.set_cons_zero, List.set_cons_succ]
                      refine takeV (i := 18) (d := 141) (v := .bool false) rfl (by kernel_rfl) (by kernel_rfl) (by kernel_rfl) (fun _ _ _ h => h) rfl (fun _ _ => exPickF (v := .bool false) rfl rfl) B4.out ?_
                      simp only [Act.put, List.setIfInBounds_toArray, List.set_cons_zero, List.set_cons_succ]
                      refine wpAnyH_done (by kernel_rfl) ?_ _
                      have BF := Lib.hid (B.out.trans (B4.out.mono B.out.size))
                      clear B4 R_4
                      go_wp2_with fail
                      go_roundw
                      case rel => exact ⟨m2 + 1, by omega, by go_num, BF.out⟩
                      case measure => simp [intOf]; omega
                    · have hRv := Lib.hid hRb
                      have hQv := Lib.hid (hQw.out hRb)
                      clear hRb hQw
                      refine takeV (i := 0) (d := 123) (v := .pointer (some ⟨gs, 0, none⟩)) rfl (by kernel_rfl) (by kernel_rfl) (by kernel_rfl) (fun _ _ _ h => h) rfl (fun _ _ => exMove (v := .pointer (some ⟨gs, 0, none⟩)) rfl) B4.out ?_
                      simp only [Act.put, List.setIfInBounds_toArray, List.set_cons_zero, List.set_cons_succ]
                      refine takeV (i := 2) (d := 125) (v := .int .i64 ((j2 : Nat) : Int)) rfl (by kernel_rfl) (by kernel_rfl) (by kernel_rfl) (fun _ _ _ h => h) rfl (fun _ _ => exMove (v := .int .i64 ((j2 : Nat) : Int)) rfl) B4.out ?_
                      simp only [Act.put, List.setIfInBounds_toArray, List.set_cons_zero, List.set_cons_succ]
                      refine takeV (i := 3) (d := 126) (v := .int .i64 ((m2 : Nat) : Int)) rfl (by kernel_rfl) (by kernel_rfl) (by kernel_rfl) (fun _ _ _ h => h) rfl (fun _ _ => exMove (v := .int .i64 ((m2 : Nat) : Int)) rfl) B4.out ?_
                      simp only [Act.put, List.setIfInBounds_toArray, List.set_cons_zero, List.set_cons_succ]
                      refine wpAnyH_all (rs := [1]) (by kernel_rfl) (by simp) ?_
                      intro i hi
                      simp only [List.mem_cons, List.not_mem_nil, or_false] at hi
                      subst hi
                      refine wpOp_of rfl rfl (wp_called (args := #[.pointer (some ⟨gs, 0, none⟩)]) hcR (by simp only [List.map_toArray, List.map_cons, List.map_nil]; rfl) (HRs.out w4 B4.out) ?_)
                      rintro e w_1 ⟨gr_2, rfl, q_3, h_5⟩
                      rw [h_5] at q_3 ⊢
                      have R_4 := Lib.hid q_3
                      clear h_5 q_3
                      refine ⟨_, rfl, B4.out, ?_⟩
                      simp only [Act.put, List.setIfInBounds_toArray, List.set_cons_zero, List.set_cons_succ]
                      refine wpAnyH_all (rs := [4]) (by kernel_rfl) (by simp) ?_
                      intro i hi
                      simp only [List.mem_cons, List.not_mem_nil, or_false] at hi
                      subst hi
                      refine wpOp_of rfl rfl (wp_called (args := #[.pointer (some ⟨gr_2, 0, none⟩), .int .i64 ((j2 : Nat) : Int), .int .i64 ((m2 : Nat) : Int)]) hcH (by simp only [List.map_toArray, List.map_cons, List.map_nil]; rfl) (has21 R_4.out j2 m2 (by omega) hRv.out) ?_)
                      rintro e w_6 ⟨rfl, rfl⟩
                      refine ⟨_, rfl, B4.out, ?_⟩
                      simp only [Act.put, List.setIfInBounds_toArray, List.set_cons_zero, List.set_cons_succ]
                      refine takeV (i := 5) (d := 128) (v := .bool true) rfl (by kernel_rfl) (by kernel_rfl) (by kernel_rfl) (fun _ _ _ h => h) rfl (fun _ _ => exMove (v := .bool true) rfl) B4.out ?_
                      simp only [Act.put, List.setIfInBounds_toArray, List.set_cons_zero, List.set_cons_succ]
                      refine takeV (i := 6) (d := 129) (v := .pointer (some ⟨gt, 0, none⟩)) rfl (by kernel_rfl) (by kernel_rfl) (by kernel_rfl) (fun _ _ _ h => h) rfl (fun _ _ => exMove (v := .pointer (some ⟨gt, 0, none⟩)) rfl) B4.out ?_
                      simp only [Act.put, List.setIfInBounds_toArray, List.set_cons_zero, List.set_cons_succ]
                      refine takeV (i := 8) (d := 131) (v := .slice (some ⟨gz, 0, none⟩) nx nx) rfl (by kernel_rfl) (by kernel_rfl) (by kernel_rfl) (fun _ _ _ h => h) rfl (fun _ _ => exMove (v := .slice (some ⟨gz, 0, none⟩) nx nx) rfl) B4.out ?_
                      simp only [Act.put, List.setIfInBounds_toArray, List.set_cons_zero, List.set_cons_succ]
                      refine takeV (i := 9) (d := 132) (v := .int .i64 ((j2 : Nat) : Int)) rfl (by kernel_rfl) (by kernel_rfl) (by kernel_rfl) (fun _ _ _ h => h) rfl (fun _ _ => exMove (v := .int .i64 ((j2 : Nat) : Int)) rfl) B4.out ?_
                      simp only [Act.put, List.setIfInBounds_toArray, List.set_cons_zero, List.set_cons_succ]
                      refine takeV (i := 10) (d := 133) (v := .pointer (some ⟨gz, j2, none⟩)) rfl (by kernel_rfl) (by kernel_rfl) (by kernel_rfl) (fun _ _ _ h => h) rfl (fun w' _ => exIndex rfl rfl (IJ.out w')) B4.out ?_
                      simp only [Act.put, List.setIfInBounds_toArray, List.set_cons_zero, List.set_cons_succ]
                      refine takeV (i := 11) (d := 134) (v := .int .i64 ((p2 : Nat) : Int)) rfl (by kernel_rfl) (by kernel_rfl) (by kernel_rfl) (fun _ _ _ h => h) rfl (fun w' h => exLoad rfl (loadIntC gz j2 w' _ (CJ.out w' h))) B4.out ?_
                      simp only [Act.put, List.setIfInBounds_toArray, List.set_cons_zero, List.set_cons_succ]
                      refine takeV (i := 12) (d := 135) (v := .slice (some ⟨gz, 0, none⟩) nx nx) rfl (by kernel_rfl) (by kernel_rfl) (by kernel_rfl) (fun _ _ _ h => h) rfl (fun _ _ => exMove (v := .slice (some ⟨gz, 0, none⟩) nx nx) rfl) B4.out ?_
                      simp only [Act.put, List.setIfInBounds_toArray, List.set_cons_zero, List.set_cons_succ]
                      refine takeV (i := 13) (d := 136) (v := .int .i64 ((m2 : Nat) : Int)) rfl (by kernel_rfl) (by kernel_rfl) (by kernel_rfl) (fun _ _ _ h => h) rfl (fun _ _ => exMove (v := .int .i64 ((m2 : Nat) : Int)) rfl) B4.out ?_
                      simp only [Act.put, List.setIfInBounds_toArray, List.set_cons_zero, List.set_cons_succ]
                      refine takeV (i := 14) (d := 137) (v := .pointer (some ⟨gz, m2, none⟩)) rfl (by kernel_rfl) (by kernel_rfl) (by kernel_rfl) (fun _ _ _ h => h) rfl (fun w' _ => exIndex rfl rfl (IM.out w')) B4.out ?_
                      simp only [Act.put, List.setIfInBounds_toArray, List.set_cons_zero, List.set_cons_succ]
                      refine takeV (i := 15) (d := 138) (v := .int .i64 ((r2 : Nat) : Int)) rfl (by kernel_rfl) (by kernel_rfl) (by kernel_rfl) (fun _ _ _ h => h) rfl (fun w' h => exLoad rfl (loadIntC gz m2 w' _ (CM.out w' h))) B4.out ?_
                      simp only [Act.put, List.setIfInBounds_toArray, List.set_cons_zero, List.set_cons_succ]
                      refine wpAnyH_all (rs := [7]) (by kernel_rfl) (by simp) ?_
                      intro i hi
                      simp only [List.mem_cons, List.not_mem_nil, or_false] at hi
                      subst hi
                      refine wpOp_of rfl rfl (wp_called (args := #[.pointer (some ⟨gt, 0, none⟩)]) hcR (by simp only [List.map_toArray, List.map_cons, List.map_nil]; rfl) (HRt.out w4 B4.out) ?_)
                      rintro e w_7 ⟨gr_8, rfl, q_9, h_11⟩
                      rw [h_11] at q_9 ⊢
                      have R_10 := Lib.hid q_9
                      clear h_11 q_9
                      refine ⟨_, rfl, B4.out, ?_⟩
                      simp only [Act.put, List.setIfInBounds_toArray, List.set_cons_zero, List.set_cons_succ]
                      refine wpAnyH_all (rs := [16]) (by kernel_rfl) (by simp) ?_
                      intro i hi
                      simp only [List.mem_cons, List.not_mem_nil, or_false] at hi
                      subst hi
                      refine wpOp_of rfl rfl (wp_called (args := #[.pointer (some ⟨gr_8, 0, none⟩), .int .i64 ((p2 : Nat) : Int), .int .i64 ((r2 : Nat) : Int)]) hcH (by simp only [List.map_toArray, List.map_cons, List.map_nil]; rfl) (has21 R_10.out p2 r2 (by omega) hQv.out) ?_)
                      rintro e w_12 ⟨rfl, rfl⟩
                      refine ⟨_, rfl, B4.out, ?_⟩
                      simp only [Act.put, List.setIfInBounds_toArray, List.set_cons_zero, List.set_cons_succ]
                      refine takeV (i := 17) (d := 140) (v := .bool false) rfl (by kernel_rfl) (by kernel_rfl) (by kernel_rfl) (fun _ _ _ h => h) rfl (fun _ _ => exNot (b := true) rfl) B4.out ?_
                      simp only [Act.put, List.setIfInBounds_toArray, List.set_cons_zero, List.set_cons_succ]
                      refine takeV (i := 18) (d := 141) (v := .bool false) rfl (by kernel_rfl) (by kernel_rfl) (by kernel_rfl) (fun _ _ _ h => h) rfl (fun _ _ => exPickT (v := .bool false) rfl rfl) B4.out ?_
                      simp only [Act.put, List.setIfInBounds_toArray, List.set_cons_zero, List.set_cons_succ]
                      refine wpAnyH_done (by kernel_rfl) ?_ _
                      have BF := Lib.hid (B.out.trans (B4.out.mono B.out.size))
                      clear B4 R_4 R_10
                      go_wp2_with fail
                      go_roundw
                      case rel => exact ⟨m2 + 1, by omega, by go_num, BF.out⟩
                      case measure => simp [intOf]; omega
                  · have hm2k : ¬ (m2 : Int) < (nx : Int) := by omega
                    go_wp2_with fail
                    refine (HL9.out wi B.out).mono ?_
                    rintro e wk ⟨rfl, hk9⟩
                    rw [← hk9]
                    clear hk9
                    go_wp2_with fail
                    go_roundw
                    case rel => exact ⟨j2 + 1, by omega, by go_num, B.out⟩
                    case measure => simp [intOf]; omega
              · have hj2k : ¬ (j2 : Int) < (nx : Int) := by omega
                go_wp2_with fail
                refine (HL9.out wl BJ.out).mono ?_
                rintro e wk ⟨rfl, hk9⟩
                rw [← hk9]
                clear hk9
                go_wp2_with fail
                go_roundw
                case rel => exact ⟨k + 1, by omega, by go_num, B59.out.trans (BJ.out.mono B59.out.size)⟩
                case measure => simp [intOf]; omega
      · have hlk : ¬ (k : Int) < (nf : Int) := by omega
        have BW := Lib.hid (B6.out.trans (B.out.mono B6.out.size))
        go_wp2_with fail
        refine (works21 _).mono ?_
        rintro e w8 ⟨rfl, b8⟩
        have B8 := Lib.hid (BW.out.trans (b8.mono BW.out.size))
        clear b8
        go_wp2
        go_ret
        exact ⟨rfl, B8.out⟩
end Go.Proofs.YtfnhmbflmifhcaaGreat
