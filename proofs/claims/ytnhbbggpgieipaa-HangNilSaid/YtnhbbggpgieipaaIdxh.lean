/- The chapter's example of an index: walked. -/
import Derived.Test.YtnhbbggpgieipaaIdxg
import Derived.Test.YtnhbbggpgieipaaSub
namespace Go.Proofs.Ytnhbbggpgieipaa
open Go.RowKit

def w31o : OpV := (1, vid0, vid0, ByteArray.empty)
def w31a : PatV := ((1, 1), [], [w31o])
def w31b : PatV := ((1, 2), [(1, 1)], [w31o])
def w31v : List Int := 1 :: List.replicate 63 0
theorem w31v_ok : VecOk w31v := ⟨by simp [w31v], fun n hn => by
  unfold w31v at hn
  rcases List.mem_cons.1 hn with rfl | hn
  · omega
  · have := List.eq_of_mem_replicate hn; omega⟩
theorem w31_e1 : idxE [] w31a = 0 ∧ idxL [] w31a = [w31a] := ⟨by kernel_rfl, by kernel_rfl⟩
theorem w31_e2 : idxE [w31a] w31b = 0 ∧ idxL [w31a] w31b = [w31a, w31b] := ⟨by kernel_rfl, by kernel_rfl⟩
theorem w31_e3 : idxE [w31a, w31b] w31b = 7 ∧ idxL [w31a, w31b] w31b = [w31a, w31b] := ⟨by kernel_rfl, by kernel_rfl⟩
theorem w31_l : lackP w31v [w31a, w31b] = [w31b] := by kernel_rfl
theorem w31_ops (w : World) : OpsAt (w.alloc (.cells (encO w31o).toArray 60)) (some ⟨w.heap.size, 0, none⟩) 1 [w31o] := by
  have := ops_new w [w31o] (by simp [OpV.ok, w31o, maxLen])
  simpa using this
theorem build_w31v (w : World) : (Instr.build 25 #[(0, .int .u16 1)]).run Try.prog w = .ok (.agg (vecA w31v)) w := by kernel_rfl
theorem buildA31 (b : Nat) (w : World) : (Instr.build 45 #[(0, .agg #[.int .u8 1, .int .u16 1]), (2, .slice (some ⟨b, 0, none⟩) 1 1)]).run Try.prog w = .ok (.agg (patC (1, 1) none 0 0 (some ⟨b, 0, none⟩) 1 1).toArray) w := by kernel_rfl
theorem buildB31 (b b' : Nat) (w : World) : (Instr.build 45 #[(0, .agg #[.int .u8 1, .int .u16 2]), (1, .slice (some ⟨b, 0, none⟩) 1 1), (2, .slice (some ⟨b', 0, none⟩) 1 1)]).run Try.prog w = .ok (.agg (patC (1, 2) (some ⟨b, 0, none⟩) 1 1 (some ⟨b', 0, none⟩) 1 1).toArray) w := by kernel_rfl
theorem buildO31 (w : World) : (Instr.build 60 #[(0, .int .u8 1)]).run Try.prog w = .ok (.agg (encO w31o).toArray) w := by kernel_rfl
theorem buildP11 (w : World) : (Instr.build 41 #[(0, .int .u8 1), (1, .int .u16 1)]).run Try.prog w = .ok (.agg #[.int .u8 1, .int .u16 1]) w := by kernel_rfl
theorem buildP12 (w : World) : (Instr.build 41 #[(0, .int .u8 1), (1, .int .u16 2)]).run Try.prog w = .ok (.agg #[.int .u8 1, .int .u16 2]) w := by kernel_rfl
/-- what stays in the last statement of the example -/
def CW (w : World) (g gb go hi b o : Nat) (r : List Value) (w' : World) : Prop :=
  (∃ F, IdxAt w' F g [w31a, w31b] ∧ ∀ k, F k → w.heap.size ≤ k ∧ (k < go ∨ hi ≤ k) ∧ k ≠ b) ∧ Blk w' gb 45 r.toArray ∧ PatIn w' (fun k => go ≤ k ∧ k < hi) r w31b ∧ w'.rangeAt b o (encP (1, 2)) ∧ Below w.heap.size w w' ∧ hi ≤ w'.heap.size
theorem cw_drew {w w' : World} {g gb go hi b o : Nat} {r : List Value} (h : CW w g gb go hi b o r w') : CW w g gb go hi b o r w'.drew := by
  obtain ⟨⟨F, h1, h2⟩, h3, h4, h5, h6, h7⟩ := h
  have bd : Below w'.heap.size w' w'.drew := (Below.refl _ _).drew
  exact ⟨⟨F, h1.ext bd, h2⟩, h3.ext bd, h4.ext bd, h5, h6.drew, h7⟩
theorem cw_len {w : World} {g gb go hi b o : Nat} {r : List Value} (z : Sub (CW w g gb go hi b o r)) : Calls Try.prog 21 #[.pointer (some ⟨g, 0, none⟩)] z.w fun e w' => e = .returned (.int .i64 2) ∧ CW w g gb go hi b o r w' := by
  obtain ⟨u, h⟩ := z
  obtain ⟨F, h1, h2⟩ := h.1
  exact (len31_any h1).mono fun e w' ⟨he, hw⟩ => ⟨he, hw ▸ h⟩
theorem cw_put {w : World} {g gb go hi b o : Nat} {r : List Value} (hgo : go ≤ gb) (hhi : gb < hi) (z : Sub (CW w g gb go hi b o r)) : Calls Try.prog 20 #[.pointer (some ⟨g, 0, none⟩), .agg r.toArray] z.w fun e w' => e = .returned (.int .i64 7) ∧ CW w g gb go hi b o r w' := by
  obtain ⟨u, h⟩ := z
  obtain ⟨⟨F, h1, h2⟩, h3, h4, h5, h6, h7⟩ := h
  refine (put31_any h1 (by decide) w31b r h4.at_ ⟨by decide, by decide⟩).mono ?_
  rintro e w' ⟨rfl, kp, F', h8, hF8⟩
  rw [w31_e3.2] at h8
  rw [w31_e3.1]
  have hbl : b < u.heap.size := by
    have c0 := h5 0 (.int .u8 1) rfl
    exact World.block_lt_of_cell? u ⟨b, o + 0, none⟩ c0
  have st := kp.stay (G := fun k => go ≤ k ∧ k < hi) fun k _ hk e => by have := (h2 k e).2.1; omega
  refine ⟨rfl, ⟨F', h8, fun k e => (hF8 k e).elim (h2 k) (fun e => ⟨Nat.le_trans h6.size e, .inr (Nat.le_trans h7 e), fun c => by have : u.heap.size ≤ k := e; omega⟩)⟩, h3.keep (st.2 gb h3.lt ⟨hgo, hhi⟩), h4.stay st, rangeAt_keep h5 fun j => World.cell?_of_block (a := ⟨b, j, none⟩) (kp.block b hbl fun e => (h2 b e).2.2 rfl), h6.trans (kp.below (fun k e => (h2 k e).1) h6.size), Nat.le_trans h7 kp.size⟩
set_option maxRecDepth 100000 in
set_option maxHeartbeats 4000000 in
theorem works31 (w : World) : Calls Try.prog 12 #[] w (RetB w (.bool true)) := by
  go_enter Try.func12, Try.ntmps12
  go_wp2_with fail
  refine (new31_any _).mono ?_
  rintro e w1 ⟨g, rfl, hI, b1⟩
  have HI := Lib.hid hI
  have B1 := Lib.hid b1
  clear hI b1
  have O2 := Lib.hid (w31_ops w1)
  have B2 : Hid (Below w1.heap.size w1 (w1.alloc (.cells (encO w31o).toArray 60))) := below_new _ _
  go_upto_region 3 with (first
    | (refine wpList_built (buildP11 _) (by rfl) ?_)
    | (refine wpList_built (buildO31 _) (by rfl) ?_)
    | (refine wpList_lit1 opSl (cs := encO w31o) rfl (by omega) (by rfl) ?_; generalize hgo : w1.heap.size = go at *; generalize (w1.alloc (.cells (encO w31o).toArray 60)) = w2 at *)
    | (refine wpList_built (buildA31 _ _) (by rfl) ?_)
    | (refine wpList_alloced (allocPat _) ?_)
    | (refine wpList_store_row rfl 45 _ _ (by rfl) w2.heap.size (patC (1, 1) none 0 0 (some ⟨go, 0, none⟩) 1 1).toArray (by rfl) (by rfl) _ _ (Blk.new _ _ _) infoPat rfl patC_one ?_))
  have KA : Hid (Blk ((w2.alloc (.cells #[.int .u8 0, .int .u16 0, .slice none 0 0, .slice none 0 0] 45)).setRow w2.heap.size (patC (1, 1) none 0 0 (some ⟨go, 0, none⟩) 1 1).toArray) w2.heap.size 45 (patC (1, 1) none 0 0 (some ⟨go, 0, none⟩) 1 1).toArray) := (Blk.new _ _ _).row _
  have BA : Hid (Below w2.heap.size w2 ((w2.alloc (.cells #[.int .u8 0, .int .u16 0, .slice none 0 0, .slice none 0 0] 45)).setRow w2.heap.size (patC (1, 1) none 0 0 (some ⟨go, 0, none⟩) 1 1).toArray)) := below_setRow ((Below.refl _ _).alloc (Nat.le_refl _) _) (Nat.le_refl _) _
  generalize ((w2.alloc (.cells #[.int .u8 0, .int .u16 0, .slice none 0 0, .slice none 0 0] 45)).setRow w2.heap.size (patC (1, 1) none 0 0 (some ⟨go, 0, none⟩) 1 1).toArray) = w3 at *
  have OA := Lib.hid (O2.out.ext BA.out)
  have hga : Hid (go ≤ w2.heap.size) := by rw [← hgo]; exact B2.out.size
  have B13 : Hid (Below w1.heap.size w1 w3) := by rw [hgo]; exact B2.out.trans (BA.out.mono hga.out)
  have HI := Lib.hid (HI.out.ext B13.out)
  have B3 := Lib.hid (B1.out.trans (B13.out.mono B1.out.size))
  have RA := Lib.hid (patC_pid KA.out)
  have hgo := Lib.hid hgo
  have hg3 : Hid (w2.heap.size < w3.heap.size) := KA.out.lt
  generalize hga2 : w2.heap.size = ga at *
  clear hga2 B2 BA O2 B13
  have P4 : Hid (PidsAt (w3.alloc (.cells (encP (1, 1)).toArray 41)) (some ⟨w3.heap.size, 0, none⟩) 1 [(1, 1)]) := ⟨rfl, sl_fresh w3 _ 41 2 1 _ rfl rfl⟩
  have B4 : Hid (Below w3.heap.size w3 (w3.alloc (.cells (encP (1, 1)).toArray 41))) := below_new _ _
  go_upto_region 4 with (first
    | (refine wpList_built (buildP12 _) (by rfl) ?_)
    | (refine wpList_load_mid rfl 41 _ (by rfl) ga 0 (by rfl) _ _ RA.out underPid rfl infoPid ?_)
    | (refine wpList_lit1 pidSl (cs := encP (1, 1)) rfl (by omega) (by rfl) ?_; generalize hgp : w3.heap.size = gp at *; generalize (w3.alloc (.cells (encP (1, 1)).toArray 41)) = w4 at *; have O5 := Lib.hid (w31_ops w4); have B5 : Hid (Below w4.heap.size w4 (w4.alloc (.cells (encO w31o).toArray 60))) := below_new _ _)
    | (refine wpList_built (buildO31 _) (by rfl) ?_)
    | (refine wpList_lit1 opSl (cs := encO w31o) rfl (by omega) (by rfl) ?_; generalize hgq : w4.heap.size = gq at *; generalize (w4.alloc (.cells (encO w31o).toArray 60)) = w5 at *)
    | (refine wpList_built (buildB31 _ _ _) (by rfl) ?_)
    | (refine wpList_alloced (allocPat _) ?_)
    | (refine wpList_store_row rfl 45 _ _ (by rfl) w5.heap.size (patC (1, 2) (some ⟨gp, 0, none⟩) 1 1 (some ⟨gq, 0, none⟩) 1 1).toArray (by rfl) (by rfl) _ _ (Blk.new _ _ _) infoPat rfl patC_one ?_))
  have KB : Hid (Blk ((w5.alloc (.cells #[.int .u8 0, .int .u16 0, .slice none 0 0, .slice none 0 0] 45)).setRow w5.heap.size (patC (1, 2) (some ⟨gp, 0, none⟩) 1 1 (some ⟨gq, 0, none⟩) 1 1).toArray) w5.heap.size 45 (patC (1, 2) (some ⟨gp, 0, none⟩) 1 1 (some ⟨gq, 0, none⟩) 1 1).toArray) := (Blk.new _ _ _).row _
  have B6 : Hid (Below w5.heap.size w5 ((w5.alloc (.cells #[.int .u8 0, .int .u16 0, .slice none 0 0, .slice none 0 0] 45)).setRow w5.heap.size (patC (1, 2) (some ⟨gp, 0, none⟩) 1 1 (some ⟨gq, 0, none⟩) 1 1).toArray)) := below_setRow ((Below.refl _ _).alloc (Nat.le_refl _) _) (Nat.le_refl _) _
  generalize ((w5.alloc (.cells #[.int .u8 0, .int .u16 0, .slice none 0 0, .slice none 0 0] 45)).setRow w5.heap.size (patC (1, 2) (some ⟨gp, 0, none⟩) 1 1 (some ⟨gq, 0, none⟩) 1 1).toArray) = w6 at *
  subst hgp hgq
  simp only [Act.put, List.setIfInBounds_toArray, List.set_cons_zero, List.set_cons_succ]
  have B36 : Hid (Below w3.heap.size w3 w6) := B4.out.trans ((B5.out.trans (B6.out.mono B5.out.size)).mono B4.out.size)
  have HI := Lib.hid (HI.out.ext B36.out)
  have KA := Lib.hid (KA.out.ext B36.out)
  have OA := Lib.hid (OA.out.ext B36.out)
  have B6w := Lib.hid (B3.out.trans (B36.out.mono B3.out.size))
  have PB : Hid (PatIn w6 (fun k => go ≤ k ∧ k < w6.heap.size) (patC (1, 2) (some ⟨w3.heap.size, 0, none⟩) 1 1 (some ⟨w4.heap.size, 0, none⟩) 1 1) w31b) := by
    refine ⟨⟨some ⟨w3.heap.size, 0, none⟩, 1, some ⟨w4.heap.size, 0, none⟩, 1, rfl, (P4.out.ext (B5.out.trans (B6.out.mono B5.out.size))), O5.out.ext B6.out, ?_, ?_⟩, by decide, by decide⟩
    · rintro _ b o ⟨⟩
      have := hga.out; have := hg3.out; have := B36.out.size; have := B4.out.size; have := B5.out.size; have := B6.out.size; have := (P4.out.sl.2 (by decide)); obtain ⟨b', o', e', hb', _⟩ := this; injection e' with e'; injection e' with e1 _; constructor <;> omega
    · rintro _ b o ⟨⟩
      have := hga.out; have := hg3.out; have := B36.out.size; have := B4.out.size; have := B5.out.size; have := B6.out.size; have := (O5.out.sl.2 (by decide)); obtain ⟨b', o', e', hb', _⟩ := this; injection e' with e'; injection e' with e1 _; constructor <;> omega
  have PA : Hid (PatAt w6 (patC (1, 1) none 0 0 (some ⟨go, 0, none⟩) 1 1) w31a) := ⟨⟨none, 0, some ⟨go, 0, none⟩, 1, rfl, ⟨rfl, rfl, fun h => absurd h (by decide)⟩, OA.out⟩, by decide, by decide⟩
  have hgb : Hid (go ≤ w5.heap.size) := by have := hga.out; have := hg3.out; have := B4.out.size; have := B5.out.size; rw [Hid]; omega
  generalize w3.heap.size = gp at *
  generalize w4.heap.size = gq at *
  generalize w5.heap.size = gb at *
  clear OA O5 P4 B3 B4 B5 B6 B36 RA hg3
  have hcP : ∀ args u, (callFunc 20 args).run Try.prog u = .ok (.enter 20 args) u := enters_of Try.func20 (by kernel_rfl) rfl
  go_cut [4, 5] (fun e1 e2 wx => ∃ F, e1 = .int .i64 0 ∧ e2 = .int .i64 0 ∧ IdxAt wx F g [w31a, w31b] ∧ (∀ k, F k → w.heap.size ≤ k ∧ (k < go ∨ w6.heap.size ≤ k)) ∧ Stay (fun k => go ≤ k ∧ k < w6.heap.size) w6 wx ∧ Below w.heap.size w wx)
  case first =>
    refine wp_region_held (S := fun w' => Blk w' ga 45 (patC (1, 1) none 0 0 (some ⟨go, 0, none⟩) 1 1).toArray ∧ Blk w' gb 45 (patC (1, 2) (some ⟨gp, 0, none⟩) 1 1 (some ⟨gq, 0, none⟩) 1 1).toArray) mixedS ?_
    change wpAnyH _ _ _ _ _ _ _ _ w6.drew
    have bd : Below w6.heap.size w6 w6.drew := (Below.refl _ _).drew
    have S7 : Hid (Blk w6.drew ga 45 (patC (1, 1) none 0 0 (some ⟨go, 0, none⟩) 1 1).toArray ∧ Blk w6.drew gb 45 (patC (1, 2) (some ⟨gp, 0, none⟩) 1 1 (some ⟨gq, 0, none⟩) 1 1).toArray) := ⟨KA.out.ext bd, KB.out.ext bd⟩
    have HI7 := Lib.hid (HI.out.ext bd)
    have PA7 := Lib.hid (PA.out.ext bd)
    have PB7 := Lib.hid (PB.out.ext bd)
    have B7 := Lib.hid (B6w.out.trans (bd.mono B6w.out.size))
    have st7 := Lib.hid (Stay.of_below (G := fun k => go ≤ k ∧ k < w6.heap.size) bd)
    have hs7 : Hid (w6.drew.heap.size = w6.heap.size) := rfl
    generalize w6.drew = w7 at *
    simp only [List.size_toArray, List.length_cons, List.length_nil]
    refine take_move (i := 0) (v := .pointer (some ⟨g, 0, none⟩)) rfl (by kernel_rfl) (by kernel_rfl) (by kernel_rfl) (fun _ _ _ h => h) rfl rfl S7.out ?_
    simp only [Act.put, List.setIfInBounds_toArray, List.set_cons_zero, List.set_cons_succ]
    refine take_row (i := 1) rfl (by kernel_rfl) (by kernel_rfl) (by kernel_rfl) (fun _ _ _ h => h) rfl rfl (fun _ h => h.1) underPat rfl infoPat S7.out ?_
    simp only [Act.put, List.setIfInBounds_toArray, List.set_cons_zero, List.set_cons_succ]
    refine take_move (i := 3) (v := .pointer (some ⟨g, 0, none⟩)) rfl (by kernel_rfl) (by kernel_rfl) (by kernel_rfl) (fun _ _ _ h => h) rfl rfl S7.out ?_
    simp only [Act.put, List.setIfInBounds_toArray, List.set_cons_zero, List.set_cons_succ]
    refine take_row (i := 4) rfl (by kernel_rfl) (by kernel_rfl) (by kernel_rfl) (fun _ _ _ h => h) rfl rfl (fun _ h => h.2) underPat rfl infoPat S7.out ?_
    simp only [Act.put, List.setIfInBounds_toArray, List.set_cons_zero, List.set_cons_succ]
    have HP1 := Lib.hid (put31_any HI7.out (by decide) w31a _ PA7.out ⟨by decide, by decide⟩)
    refine wpAnyH_all (rs := [2]) (by kernel_rfl) (by simp) ?_
    intro i hi
    simp only [List.mem_cons, List.not_mem_nil, or_false] at hi
    subst hi
    refine wpOp_of rfl rfl (wp_called (args := #[.pointer (some ⟨g, 0, none⟩), .agg (patC (1, 1) none 0 0 (some ⟨go, 0, none⟩) 1 1).toArray]) hcP (by simp only [List.map_toArray, List.map_cons, List.map_nil]; rfl) (HP1.out) ?_)
    rintro e w8 ⟨rfl, kp, F', h8, hF8⟩
    have kpm := Lib.hid (kp.stay (G := fun k => go ≤ k ∧ k < w6.heap.size) fun k _ hk e => by have := e.2; omega)
    have hF8' : Hid (∀ k, F' k → w.heap.size ≤ k ∧ (k < go ∨ w6.heap.size ≤ k)) := fun k e => (hF8 k e).elim (fun e => ⟨e.1, .inl e.2⟩) (fun e => ⟨Nat.le_trans B7.out.size e, .inr (by rw [hs7.out] at e; exact e)⟩)
    have S8 : Hid (Blk w8 ga 45 (patC (1, 1) none 0 0 (some ⟨go, 0, none⟩) 1 1).toArray ∧ Blk w8 gb 45 (patC (1, 2) (some ⟨gp, 0, none⟩) 1 1 (some ⟨gq, 0, none⟩) 1 1).toArray) := ⟨S7.out.1.keep (kpm.out.2 ga S7.out.1.lt ⟨hga.out, by rw [← hs7.out]; exact S7.out.1.lt⟩), S7.out.2.keep (kpm.out.2 gb S7.out.2.lt ⟨hgb.out, by rw [← hs7.out]; exact S7.out.2.lt⟩)⟩
    refine ⟨_, rfl, S8.out, ?_⟩
    simp only [Act.put, List.setIfInBounds_toArray, List.set_cons_zero, List.set_cons_succ]
    rw [w31_e1.2] at h8
    rw [w31_e1.1]
    have HI8 := Lib.hid h8
    have PB8 := Lib.hid (PB7.out.stay kpm.out)
    have B8 := Lib.hid (B7.out.trans (kp.below (B := w.heap.size) (fun k e => e.1) B7.out.size))
    have st8 : Hid (Stay (fun k => go ≤ k ∧ k < w6.heap.size) w6 w8) := ⟨Nat.le_trans st7.out.1 kpm.out.1, fun k hk e => (kpm.out.2 k (Nat.lt_of_lt_of_le hk st7.out.1) e).trans (st7.out.2 k hk e)⟩
    clear kp h8 hF8 kpm HP1 S7 HI7 PA7 PB7 B7 st7
    have HP2 := Lib.hid (put31_any HI8.out (by decide) w31b _ PB8.out.at_ ⟨by decide, by decide⟩)
    refine wpAnyH_all (rs := [5]) (by kernel_rfl) (by simp) ?_
    intro i hi
    simp only [List.mem_cons, List.not_mem_nil, or_false] at hi
    subst hi
    refine wpOp_of rfl rfl (wp_called (args := #[.pointer (some ⟨g, 0, none⟩), .agg (patC (1, 2) (some ⟨gp, 0, none⟩) 1 1 (some ⟨gq, 0, none⟩) 1 1).toArray]) hcP (by simp only [List.map_toArray, List.map_cons, List.map_nil]; rfl) (HP2.out) ?_)
    rintro e w9 ⟨rfl, kp, F2, h9, hF9⟩
    have kpm := Lib.hid (kp.stay (G := fun k => go ≤ k ∧ k < w6.heap.size) fun k _ hk e => by have := (hF8'.out k e).2; omega)
    have hs8 : Hid (w6.heap.size ≤ w8.heap.size) := st8.out.1
    have S9 : Hid (Blk w9 ga 45 (patC (1, 1) none 0 0 (some ⟨go, 0, none⟩) 1 1).toArray ∧ Blk w9 gb 45 (patC (1, 2) (some ⟨gp, 0, none⟩) 1 1 (some ⟨gq, 0, none⟩) 1 1).toArray) := ⟨S8.out.1.keep (kpm.out.2 ga S8.out.1.lt ⟨hga.out, KA.out.lt⟩), S8.out.2.keep (kpm.out.2 gb S8.out.2.lt ⟨hgb.out, KB.out.lt⟩)⟩
    refine ⟨_, rfl, S9.out, ?_⟩
    simp only [Act.put, List.setIfInBounds_toArray, List.set_cons_zero, List.set_cons_succ]
    rw [w31_e2.2] at h9
    rw [w31_e2.1]
    have HI9 := Lib.hid h9
    have hF9' : Hid (∀ k, F2 k → w.heap.size ≤ k ∧ (k < go ∨ w6.heap.size ≤ k)) := fun k e => (hF9 k e).elim (fun e => hF8'.out k e) (fun e => ⟨Nat.le_trans B8.out.size e, .inr (Nat.le_trans hs8.out e)⟩)
    have B9 := Lib.hid (B8.out.trans (kp.below (B := w.heap.size) (fun k e => (hF8'.out k e).1) B8.out.size))
    have st9 : Hid (Stay (fun k => go ≤ k ∧ k < w6.heap.size) w6 w9) := ⟨Nat.le_trans st8.out.1 kpm.out.1, fun k hk e => (kpm.out.2 k (Nat.lt_of_lt_of_le hk st8.out.1) e).trans (st8.out.2 k hk e)⟩
    clear kp h9 hF9 kpm
    refine wpAnyH_all (rs := [6]) (by kernel_rfl) (by simp) ?_
    intro i hi
    simp only [List.mem_cons, List.not_mem_nil, or_false] at hi
    subst hi
    refine wpOp_of rfl rfl (wp_assigned rfl ?_)
    refine ⟨S9.out, ?_⟩
    simp only [Act.put, List.setIfInBounds_toArray, List.set_cons_zero, List.set_cons_succ]
    refine wpAnyH_all (rs := [7]) (by kernel_rfl) (by simp) ?_
    intro i hi
    simp only [List.mem_cons, List.not_mem_nil, or_false] at hi
    subst hi
    refine wpOp_of rfl rfl (wp_assigned rfl ?_)
    refine ⟨S9.out, ?_⟩
    simp only [Act.put, List.setIfInBounds_toArray, List.set_cons_zero, List.set_cons_succ]
    refine wpAnyH_done (by kernel_rfl) ?_ _
    go_wp2_with fail
    go_meet
    case rel => exact ⟨F2, rfl, rfl, HI9.out, hF9'.out, st9.out, B9.out⟩
  case rest =>
    obtain ⟨F, rfl, rfl, hI, hF, st, bw⟩ := hcut
    obtain ⟨wx, rfl⟩ : ∃ wx, wx = wc := ⟨_, rfl⟩
    have KB6 : Hid (gb < w6.heap.size) := KB.out.lt
    have KB := Lib.hid (KB.out.keep (st.2 gb KB.out.lt ⟨hgb.out, KB.out.lt⟩))
    have PB := Lib.hid (PB.out.stay st)
    have hF := Lib.hid hF
    have BW := Lib.hid bw
    have hx : Hid (w6.heap.size ≤ wx.heap.size) := st.1
    clear st bw PA KA HI
    go_wp2_with (refine wpList_built (build_w31v _) (by rfl) ?_)
    refine (lack31_any hI (by decide) w31v w31v_ok).mono ?_
    rintro e w10 ⟨s, rfl, O, b10⟩
    rw [w31_l] at O
    obtain ⟨A, c, rfl, _⟩ := O.slice
    obtain ⟨b, o, p, r, rfl, hb, hp, pa, R⟩ := O.pats.pat_ (k := 0) (by decide)
    obtain rfl : w31b = p := by simpa using hp
    have hbx : Hid (wx.heap.size ≤ b) := (O.pats.inb (by decide) b o rfl).1
    obtain ⟨⟨A1, c1, A2, c2, rfl, _, _, _, _⟩, _, _⟩ := pa
    have R := Lib.hid (pid_range R)
    have C0 : Hid (CW w g gb go w6.heap.size b (o + 0 * 4) (patC (1, 2) (some ⟨gp, 0, none⟩) 1 1 (some ⟨gq, 0, none⟩) 1 1) w10) := ⟨⟨F, hI.ext b10, fun k e => ⟨(hF.out k e).1, (hF.out k e).2, fun c => by have := hI.lt k e; have := hbx.out; omega⟩⟩, KB.out.ext b10, PB.out.ext b10, R.out, BW.out.trans (b10.mono BW.out.size), Nat.le_trans hx.out b10.size⟩
    have HP : Hid (∀ z : Sub (CW w g gb go w6.heap.size b (o + 0 * 4) (patC (1, 2) (some ⟨gp, 0, none⟩) 1 1 (some ⟨gq, 0, none⟩) 1 1)), Calls Try.prog 20 #[.pointer (some ⟨g, 0, none⟩), .agg (patC (1, 2) (some ⟨gp, 0, none⟩) 1 1 (some ⟨gq, 0, none⟩) 1 1).toArray] z.w fun e w' => e = .returned (.int .i64 7) ∧ CW w g gb go w6.heap.size b (o + 0 * 4) (patC (1, 2) (some ⟨gp, 0, none⟩) 1 1 (some ⟨gq, 0, none⟩) 1 1) w') := fun z => cw_put hgb.out KB6.out z
    have HN : Hid (∀ z : Sub (CW w g gb go w6.heap.size b (o + 0 * 4) (patC (1, 2) (some ⟨gp, 0, none⟩) 1 1 (some ⟨gq, 0, none⟩) 1 1)), Calls Try.prog 21 #[.pointer (some ⟨g, 0, none⟩)] z.w fun e w' => e = .returned (.int .i64 2) ∧ CW w g gb go w6.heap.size b (o + 0 * 4) (patC (1, 2) (some ⟨gp, 0, none⟩) 1 1 (some ⟨gq, 0, none⟩) 1 1) w') := fun z => cw_len z
    have EQ : ∀ u : World, (binOp .eql 41 (.agg (encP (1, 2)).toArray) (.agg (encP (1, 2)).toArray)).run Try.prog u = .ok (.bool true) u := fun u => eqlP (1, 2) (1, 2) u
    clear hb hp R O b10 hI hF KB PB BW hx KB6 hgb
    have NE : Nonempty (Sub (CW w g gb go w6.heap.size b (o + 0 * 4) (patC (1, 2) (some ⟨gp, 0, none⟩) 1 1 (some ⟨gq, 0, none⟩) 1 1))) := ⟨⟨_, C0.out⟩⟩
    go_wp2_with fail
    refine wp_region_sub (CW w g gb go w6.heap.size b (o + 0 * 4) (patC (1, 2) (some ⟨gp, 0, none⟩) 1 1 (some ⟨gq, 0, none⟩) 1 1)) mixedS (by kernel_rfl) (cw_drew C0.out) ?_
    repeat (first
      | go_big_quiet_skip
      | (refine wpQuiet_load_mid (cs := encP (1, 2)) (by rintro _ ⟨z, rfl⟩; exact z.h.2.2.2.1) underPid rfl infoPid rfl rfl ?_; simp only [List.set_cons_succ, List.set_cons_zero])
      | (refine wpQuiet_load_mid (cs := encP (1, 2)) (by rintro _ ⟨z, rfl⟩; exact patC_pid z.h.2.1) underPid rfl infoPid rfl rfl ?_; simp only [List.set_cons_succ, List.set_cons_zero])
      | (refine wpQuiet_load_mid (cs := (patC (1, 2) (some ⟨gp, 0, none⟩) 1 1 (some ⟨gq, 0, none⟩) 1 1)) (by rintro _ ⟨z, rfl⟩; exact blk_pat z.h.2.1) underPat rfl infoPat rfl rfl ?_; simp only [List.set_cons_succ, List.set_cons_zero])
      | go_big_quiet_step ((first
        | (go_at_call 21; exact sub_call (HN.out _))
        | (go_at_call 20; exact sub_call (HP.out _)))))
    refine wpQuiet_nil ?_
    rintro _ ⟨z, rfl⟩
    have W := Lib.hid z.h.2.2.2.2.1
    generalize z.w = w11 at *
    go_wp2
    go_ret
    exact ⟨rfl, W.out⟩
end Go.Proofs.Ytnhbbggpgieipaa
