/- THE PATCHES ARE THE VECTOR: walked. -/
import Derived.Test.YtceapefjdiphpaaVecf
import Derived.Test.YtceapefjdiphpaaHeld
import Derived.Deep.RegionHeld3
import Derived.Deep.DeepCutAuto
import Derived.Deep.MidRow
namespace Go.Proofs.Ytceapefjdiphpaa
open Go.RowKit

theorem alloc_new (w : World) : ∃ g w', (Instr.alloc 24 true (.tuple #[])).run Try.prog w = .ok (.pointer (some ⟨g, 0, none⟩)) w' ∧ Blk w' g 24 (vecA vec0) ∧ w.heap.size ≤ g ∧ Below w.heap.size w w' :=
  ⟨_, _, alloc64 w, Blk.new _ _ _, Nat.le_refl _, (Below.refl _ _).alloc (Nat.le_refl _) _⟩
theorem callJ (args : Array Value) (w : World) : (callFunc 19 args).run Try.prog w = .ok (.enter 19 args) w := by kernel_rfl
theorem callM (args : Array Value) (w : World) : (callFunc 20 args).run Try.prog w = .ok (.enter 20 args) w := by kernel_rfl
theorem rangeVec {w : World} {g : Nat} {l : List Int} (h : Blk w g 24 (vecA l)) : w.rangeAt g 0 (l.map (Value.int .u16)) := by
  intro j v hv
  rw [Nat.zero_add, h.cell j]
  simpa [vecA] using hv

set_option maxRecDepth 100000 in
set_option maxHeartbeats 8000000 in
theorem vecHas_main (a b : List Int) (ha : VecOk a) (hb : VecOk b) (n : Nat) (hn : n < 256) (s : Int) (hs : 0 ≤ s ∧ s < 65536) (w : World) :
    Calls Try.prog 6 #[.agg (vecA a), .agg (vecA b), .agg #[.int .u8 n, .int .u16 s]] w (RetB w (.bool true)) := by
  have H1 := Lib.hid (fun w0 => join_any a b ha hb w0)
  have H2 := Lib.hid (fun w0 => meet_any a b ha hb w0)
  have K1 : Hid (Blk (((w.alloc (.cells (vecA a) 24)).alloc (.cells (vecA b) 24)).alloc (.cells #[.int .u8 n, .int .u16 s] 38)) w.heap.size 24 (vecA a)) := ((Blk.new _ _ _).alloc _).alloc _
  have K2 : Hid (Blk (((w.alloc (.cells (vecA a) 24)).alloc (.cells (vecA b) 24)).alloc (.cells #[.int .u8 n, .int .u16 s] 38)) (w.heap.size + 1) 24 (vecA b)) := (Blk.newAt (by simp) _ _).alloc _
  have K3 : Hid (Blk (((w.alloc (.cells (vecA a) 24)).alloc (.cells (vecA b) 24)).alloc (.cells #[.int .u8 n, .int .u16 s] 38)) (w.heap.size + 1 + 1) 38 #[.int .u8 n, .int .u16 s]) := Blk.newAt (by simp) _ _
  have B0 : Hid (Below w.heap.size w (((w.alloc (.cells (vecA a) 24)).alloc (.cells (vecA b) 24)).alloc (.cells #[.int .u8 n, .int .u16 s] 38))) :=
    (((Below.refl _ _).alloc (Nat.le_refl _) _).alloc (by simp) _).alloc (by simp; omega) _
  have HJ := Lib.hid (fun w0 => has_any (joinV a b) (ha.join hb) n hn s w0)
  have HM := Lib.hid (fun w0 => has_any (meetV a b) (ha.meet hb) n hn s w0)
  have HA := Lib.hid (fun w0 => has_any a ha n hn s w0)
  have HB := Lib.hid (fun w0 => has_any b hb n hn s w0)
  rw [hasV_join ha hb] at HJ
  rw [hasV_meet ha hb] at HM
  have HT := Lib.hid (fun w0 => total_any a ha w0)
  have HT2 := Lib.hid (fun w0 => total_any b hb w0)
  have HTJ := Lib.hid (fun w0 => total_any (joinV a b) (ha.join hb) w0)
  have HTM := Lib.hid (fun w0 => total_any (meetV a b) (ha.meet hb) w0)
  have W1 := Lib.hid (fun w0 => within_any a b ha hb w0)
  have W2 := Lib.hid (fun w0 => within_any (meetV a b) a (ha.meet hb) ha w0)
  have W3 := Lib.hid (fun w0 => within_any a (joinV a b) ha (ha.join hb) w0)
  have LK := Lib.hid (fun w0 => lack_any b a hb ha w0)
  rw [within_meet ha hb] at W2
  rw [within_join ha hb] at W3
  have LW := Lib.hid (lack_within ha hb)
  have TS : Hid (totV (joinV a b) + totV (meetV a b) = totV a + totV b) := totTo_sum ha hb 64 (Nat.le_refl _)
  have T1 : 0 ≤ totV a ∧ totV a ≤ 65535 * 64 := totTo_bd ha 64 (Nat.le_refl _)
  have T2 : 0 ≤ totV b ∧ totV b ≤ 65535 * 64 := totTo_bd hb 64 (Nat.le_refl _)
  have T3 : 0 ≤ totV (joinV a b) ∧ totV (joinV a b) ≤ 65535 * 64 := totTo_bd (ha.join hb) 64 (Nat.le_refl _)
  have T4 : 0 ≤ totV (meetV a b) ∧ totV (meetV a b) ≤ 65535 * 64 := totTo_bd (ha.meet hb) 64 (Nat.le_refl _)
  obtain ⟨t10, t11⟩ := T1
  obtain ⟨t20, t21⟩ := T2
  obtain ⟨t30, t31⟩ := T3
  obtain ⟨t40, t41⟩ := T4
  have HN := Lib.hid (fun w0 => next_any a ha n hn w0)
  have z1 : Hid ((vecA a).size = 64) := by rw [Hid, vecA_size]; exact ha.len
  have z2 : Hid ((vecA b).size = 64) := by rw [Hid, vecA_size]; exact hb.len
  have z3 : Hid ((vecA (joinV a b)).size = 64) := by rw [Hid, vecA_size]; exact (ha.join hb).len
  have z4 : Hid ((vecA (meetV a b)).size = 64) := by rw [Hid, vecA_size]; exact (ha.meet hb).len
  go_enter Try.func6, Try.ntmps6
  go_upto_region 1 with fail
  generalize (((w.alloc (.cells (vecA a) 24)).alloc (.cells (vecA b) 24)).alloc (.cells #[.int .u8 n, .int .u16 s] 38)) = w0 at *
  go_cut [7, 8] (fun s7 s8 wx => ∃ g7 g8 : Nat, s7 = .pointer (some ⟨g7, 0, none⟩) ∧ s8 = .pointer (some ⟨g8, 0, none⟩) ∧ Blk wx g7 24 (vecA (joinV a b)) ∧ Blk wx g8 24 (vecA (meetV a b)) ∧ Below w0.heap.size w0 wx)
  case first =>
    have S1 : Hid (∀ w', Below w0.heap.size w0 w' → Blk w' w.heap.size 24 (vecA a)) := fun w' h => K1.out.ext h
    have S2 : Hid (∀ w', Below w0.heap.size w0 w' → Blk w' (w.heap.size + 1) 24 (vecA b)) := fun w' h => K2.out.ext h
    have hs1 : Hid ((vecA a).size = 64) := by rw [Hid, vecA_size]; exact ha.len
    have hs2 : Hid ((vecA b).size = 64) := by rw [Hid, vecA_size]; exact hb.len
    have SJ : Hid ((vecA (joinV a b)).size = 64) := by rw [Hid, vecA_size]; exact (ha.join hb).len
    have SM : Hid ((vecA (meetV a b)).size = 64) := by rw [Hid, vecA_size]; exact (ha.meet hb).len
    have OJ := Lib.hid (vecA_one (joinV a b))
    have OM := Lib.hid (vecA_one (meetV a b))
    have S0 : Hid ((vecA vec0).size = 64) := by rw [Hid, vecA_size]; simp [vec0]
    clear K1 K2 K3 ha hb
    generalize joinV a b = j at *
    generalize meetV a b = m at *
    refine wp_region_held (S := fun w' => Below w0.heap.size w0 w') mixed ?_
    have B1 : Hid (Below w0.heap.size w0 w0.drew) := (Below.refl _ _).drew
    change wpAnyH _ _ _ _ _ _ _ _ w0.drew
    generalize w0.drew = wd at *
    simp only [List.size_toArray, List.length_cons, List.length_nil]
    refine take_row (i := 0) rfl (by kernel_rfl) (by kernel_rfl) (by kernel_rfl) (fun _ _ _ h => h) rfl rfl S1.out under64 rfl (by rw [hs1.out]; exact info64) B1.out ?_
    simp only [Act.put, List.setIfInBounds_toArray, List.set_cons_zero, List.set_cons_succ]
    refine take_row (i := 1) rfl (by kernel_rfl) (by kernel_rfl) (by kernel_rfl) (fun _ _ _ h => h) rfl rfl S2.out under64 rfl (by rw [hs2.out]; exact info64) B1.out ?_
    simp only [Act.put, List.setIfInBounds_toArray, List.set_cons_zero, List.set_cons_succ]
    refine take_row (i := 3) rfl (by kernel_rfl) (by kernel_rfl) (by kernel_rfl) (fun _ _ _ h => h) rfl rfl S1.out under64 rfl (by rw [hs1.out]; exact info64) B1.out ?_
    simp only [Act.put, List.setIfInBounds_toArray, List.set_cons_zero, List.set_cons_succ]
    refine take_row (i := 4) rfl (by kernel_rfl) (by kernel_rfl) (by kernel_rfl) (fun _ _ _ h => h) rfl rfl S2.out under64 rfl (by rw [hs2.out]; exact info64) B1.out ?_
    simp only [Act.put, List.setIfInBounds_toArray, List.set_cons_zero, List.set_cons_succ]
    refine wpAnyH_all (rs := [2, 6, 7]) (by kernel_rfl) (by simp) ?_
    intro i hi
    simp only [List.mem_cons, List.not_mem_nil, or_false] at hi
    rcases hi with rfl | rfl | rfl
    · refine wpOp_of rfl rfl (wp_called (args := #[.agg (vecA a), .agg (vecA b)]) callJ (by simp only [List.map_toArray, List.map_cons, List.map_nil]; rfl) (H1.out wd) ?_)
      rintro e w1 ⟨rfl, h3⟩
      refine ⟨_, rfl, ext_trans B1.out h3, ?_⟩
      simp only [Act.put, List.setIfInBounds_toArray, List.set_cons_zero, List.set_cons_succ]
      have B2 := Lib.hid (ext_trans B1.out h3)
      clear h3 B1
      refine wpAnyH_all (rs := [5, 6, 7]) (by kernel_rfl) (by simp) ?_
      intro i hi
      simp only [List.mem_cons, List.not_mem_nil, or_false] at hi
      rcases hi with rfl | rfl | rfl
      · refine wpOp_of rfl rfl (wp_called (args := #[.agg (vecA a), .agg (vecA b)]) callM (by simp only [List.map_toArray, List.map_cons, List.map_nil]; rfl) (H2.out w1) ?_)
        rintro e w4 ⟨rfl, h6⟩
        refine ⟨_, rfl, ext_trans B2.out h6, ?_⟩
        simp only [Act.put, List.setIfInBounds_toArray, List.set_cons_zero, List.set_cons_succ]
        have B5 := Lib.hid (ext_trans B2.out h6)
        clear h6 B2
        refine wpAnyH_all (rs := [6, 7]) (by kernel_rfl) (by simp) ?_
        intro i hi
        simp only [List.mem_cons, List.not_mem_nil, or_false] at hi
        rcases hi with rfl | rfl
        · obtain ⟨g9, w7, r10, G11, le12, h13⟩ := alloc_new w4
          refine wpOp_of rfl rfl (wp_alloced r10 ?_)
          refine ⟨ext_trans B5.out h13, ?_⟩
          simp only [Act.put, List.setIfInBounds_toArray, List.set_cons_zero, List.set_cons_succ]
          have B8 := Lib.hid (ext_trans B5.out h13)
          have le14 : w0.heap.size ≤ g9 := Nat.le_trans B5.out.size le12
          have G15 := Lib.hid G11
          clear G11 r10 h13 B5 le12
          refine wpAnyH_all (rs := [7]) (by kernel_rfl) (by simp) ?_
          intro i hi
          simp only [List.mem_cons, List.not_mem_nil, or_false] at hi
          subst hi
          obtain ⟨g18, w16, r19, G20, le21, h22⟩ := alloc_new w7
          refine wpOp_of rfl rfl (wp_alloced r19 ?_)
          refine ⟨ext_trans B8.out h22, ?_⟩
          simp only [Act.put, List.setIfInBounds_toArray, List.set_cons_zero, List.set_cons_succ]
          have B17 := Lib.hid (ext_trans B8.out h22)
          have ne24 : g9 ≠ g18 := by have := G15.out.lt; omega
          have G23 := Lib.hid (G15.out.ext h22)
          have le25 : w0.heap.size ≤ g18 := Nat.le_trans B8.out.size le21
          have G26 := Lib.hid G20
          clear G20 r19 h22 B8 le21 G15
          refine wpAnyH_all (rs := [8]) (by kernel_rfl) (by simp) ?_
          intro i hi
          simp only [List.mem_cons, List.not_mem_nil, or_false] at hi
          subst hi
          refine wpOp_of rfl rfl (wp_stored (g := g9) rfl rfl G23.out (by rw [SJ.out]; exact info64) (by rw [SJ.out, S0.out]) OJ.out ?_)
          refine ⟨below_setRow B17.out le14 _, ?_⟩
          have B28 := Lib.hid (below_setRow B17.out le14 (vecA j))
          have G29 := Lib.hid (G23.out.row (vecA j))
          have G30 := Lib.hid (G26.out.rowFar (k := g9) (by first | exact ne24 | exact Ne.symm ne24) (vecA j))
          clear B17 G23 G26
          generalize w16.setRow g9 (vecA j) = w27 at *
          refine wpAnyH_all (rs := [9]) (by kernel_rfl) (by simp) ?_
          intro i hi
          simp only [List.mem_cons, List.not_mem_nil, or_false] at hi
          subst hi
          refine wpOp_of rfl rfl (wp_stored (g := g18) rfl rfl G30.out (by rw [SM.out]; exact info64) (by rw [SM.out, S0.out]) OM.out ?_)
          refine ⟨below_setRow B28.out le25 _, ?_⟩
          have B32 := Lib.hid (below_setRow B28.out le25 (vecA m))
          have G33 := Lib.hid (G30.out.row (vecA m))
          have G34 := Lib.hid (G29.out.rowFar (k := g18) (by first | exact ne24 | exact Ne.symm ne24) (vecA m))
          clear B28 G30 G29
          generalize w27.setRow g18 (vecA m) = w31 at *
          refine wpAnyH_done (by kernel_rfl) ?_ _
          go_wp2_with fail
          go_meet
          exact ⟨g9, g18, rfl, rfl, G34.out, G33.out, B32.out⟩
        · obtain ⟨g37, w35, r38, G39, le40, h41⟩ := alloc_new w4
          refine wpOp_of rfl rfl (wp_alloced r38 ?_)
          refine ⟨ext_trans B5.out h41, ?_⟩
          simp only [Act.put, List.setIfInBounds_toArray, List.set_cons_zero, List.set_cons_succ]
          have B36 := Lib.hid (ext_trans B5.out h41)
          have le42 : w0.heap.size ≤ g37 := Nat.le_trans B5.out.size le40
          have G43 := Lib.hid G39
          clear G39 r38 h41 B5 le40
          refine wpAnyH_all (rs := [6]) (by kernel_rfl) (by simp) ?_
          intro i hi
          simp only [List.mem_cons, List.not_mem_nil, or_false] at hi
          subst hi
          obtain ⟨g46, w44, r47, G48, le49, h50⟩ := alloc_new w35
          refine wpOp_of rfl rfl (wp_alloced r47 ?_)
          refine ⟨ext_trans B36.out h50, ?_⟩
          simp only [Act.put, List.setIfInBounds_toArray, List.set_cons_zero, List.set_cons_succ]
          have B45 := Lib.hid (ext_trans B36.out h50)
          have ne52 : g37 ≠ g46 := by have := G43.out.lt; omega
          have G51 := Lib.hid (G43.out.ext h50)
          have le53 : w0.heap.size ≤ g46 := Nat.le_trans B36.out.size le49
          have G54 := Lib.hid G48
          clear G48 r47 h50 B36 le49 G43
          refine wpAnyH_all (rs := [8]) (by kernel_rfl) (by simp) ?_
          intro i hi
          simp only [List.mem_cons, List.not_mem_nil, or_false] at hi
          subst hi
          refine wpOp_of rfl rfl (wp_stored (g := g46) rfl rfl G54.out (by rw [SJ.out]; exact info64) (by rw [SJ.out, S0.out]) OJ.out ?_)
          refine ⟨below_setRow B45.out le53 _, ?_⟩
          have B56 := Lib.hid (below_setRow B45.out le53 (vecA j))
          have G57 := Lib.hid (G54.out.row (vecA j))
          have G58 := Lib.hid (G51.out.rowFar (k := g46) (by first | exact ne52 | exact Ne.symm ne52) (vecA j))
          clear B45 G54 G51
          generalize w44.setRow g46 (vecA j) = w55 at *
          refine wpAnyH_all (rs := [9]) (by kernel_rfl) (by simp) ?_
          intro i hi
          simp only [List.mem_cons, List.not_mem_nil, or_false] at hi
          subst hi
          refine wpOp_of rfl rfl (wp_stored (g := g37) rfl rfl G58.out (by rw [SM.out]; exact info64) (by rw [SM.out, S0.out]) OM.out ?_)
          refine ⟨below_setRow B56.out le42 _, ?_⟩
          have B60 := Lib.hid (below_setRow B56.out le42 (vecA m))
          have G61 := Lib.hid (G58.out.row (vecA m))
          have G62 := Lib.hid (G57.out.rowFar (k := g37) (by first | exact ne52 | exact Ne.symm ne52) (vecA m))
          clear B56 G58 G57
          generalize w55.setRow g37 (vecA m) = w59 at *
          refine wpAnyH_done (by kernel_rfl) ?_ _
          go_wp2_with fail
          go_meet
          exact ⟨g46, g37, rfl, rfl, G62.out, G61.out, B60.out⟩
      · obtain ⟨g65, w63, r66, G67, le68, h69⟩ := alloc_new w1
        refine wpOp_of rfl rfl (wp_alloced r66 ?_)
        refine ⟨ext_trans B2.out h69, ?_⟩
        simp only [Act.put, List.setIfInBounds_toArray, List.set_cons_zero, List.set_cons_succ]
        have B64 := Lib.hid (ext_trans B2.out h69)
        have le70 : w0.heap.size ≤ g65 := Nat.le_trans B2.out.size le68
        have G71 := Lib.hid G67
        clear G67 r66 h69 B2 le68
        refine wpAnyH_all (rs := [5, 7]) (by kernel_rfl) (by simp) ?_
        intro i hi
        simp only [List.mem_cons, List.not_mem_nil, or_false] at hi
        rcases hi with rfl | rfl
        · refine wpOp_of rfl rfl (wp_called (args := #[.agg (vecA a), .agg (vecA b)]) callM (by simp only [List.map_toArray, List.map_cons, List.map_nil]; rfl) (H2.out w63) ?_)
          rintro e w72 ⟨rfl, h74⟩
          refine ⟨_, rfl, ext_trans B64.out h74, ?_⟩
          simp only [Act.put, List.setIfInBounds_toArray, List.set_cons_zero, List.set_cons_succ]
          have B73 := Lib.hid (ext_trans B64.out h74)
          have G75 := Lib.hid (G71.out.ext h74)
          clear h74 B64 G71
          refine wpAnyH_all (rs := [7]) (by kernel_rfl) (by simp) ?_
          intro i hi
          simp only [List.mem_cons, List.not_mem_nil, or_false] at hi
          subst hi
          obtain ⟨g78, w76, r79, G80, le81, h82⟩ := alloc_new w72
          refine wpOp_of rfl rfl (wp_alloced r79 ?_)
          refine ⟨ext_trans B73.out h82, ?_⟩
          simp only [Act.put, List.setIfInBounds_toArray, List.set_cons_zero, List.set_cons_succ]
          have B77 := Lib.hid (ext_trans B73.out h82)
          have ne84 : g65 ≠ g78 := by have := G75.out.lt; omega
          have G83 := Lib.hid (G75.out.ext h82)
          have le85 : w0.heap.size ≤ g78 := Nat.le_trans B73.out.size le81
          have G86 := Lib.hid G80
          clear G80 r79 h82 B73 le81 G75
          refine wpAnyH_all (rs := [8]) (by kernel_rfl) (by simp) ?_
          intro i hi
          simp only [List.mem_cons, List.not_mem_nil, or_false] at hi
          subst hi
          refine wpOp_of rfl rfl (wp_stored (g := g65) rfl rfl G83.out (by rw [SJ.out]; exact info64) (by rw [SJ.out, S0.out]) OJ.out ?_)
          refine ⟨below_setRow B77.out le70 _, ?_⟩
          have B88 := Lib.hid (below_setRow B77.out le70 (vecA j))
          have G89 := Lib.hid (G83.out.row (vecA j))
          have G90 := Lib.hid (G86.out.rowFar (k := g65) (by first | exact ne84 | exact Ne.symm ne84) (vecA j))
          clear B77 G83 G86
          generalize w76.setRow g65 (vecA j) = w87 at *
          refine wpAnyH_all (rs := [9]) (by kernel_rfl) (by simp) ?_
          intro i hi
          simp only [List.mem_cons, List.not_mem_nil, or_false] at hi
          subst hi
          refine wpOp_of rfl rfl (wp_stored (g := g78) rfl rfl G90.out (by rw [SM.out]; exact info64) (by rw [SM.out, S0.out]) OM.out ?_)
          refine ⟨below_setRow B88.out le85 _, ?_⟩
          have B92 := Lib.hid (below_setRow B88.out le85 (vecA m))
          have G93 := Lib.hid (G90.out.row (vecA m))
          have G94 := Lib.hid (G89.out.rowFar (k := g78) (by first | exact ne84 | exact Ne.symm ne84) (vecA m))
          clear B88 G90 G89
          generalize w87.setRow g78 (vecA m) = w91 at *
          refine wpAnyH_done (by kernel_rfl) ?_ _
          go_wp2_with fail
          go_meet
          exact ⟨g65, g78, rfl, rfl, G94.out, G93.out, B92.out⟩
        · obtain ⟨g97, w95, r98, G99, le100, h101⟩ := alloc_new w63
          refine wpOp_of rfl rfl (wp_alloced r98 ?_)
          refine ⟨ext_trans B64.out h101, ?_⟩
          simp only [Act.put, List.setIfInBounds_toArray, List.set_cons_zero, List.set_cons_succ]
          have B96 := Lib.hid (ext_trans B64.out h101)
          have ne103 : g65 ≠ g97 := by have := G71.out.lt; omega
          have G102 := Lib.hid (G71.out.ext h101)
          have le104 : w0.heap.size ≤ g97 := Nat.le_trans B64.out.size le100
          have G105 := Lib.hid G99
          clear G99 r98 h101 B64 le100 G71
          refine wpAnyH_all (rs := [5]) (by kernel_rfl) (by simp) ?_
          intro i hi
          simp only [List.mem_cons, List.not_mem_nil, or_false] at hi
          subst hi
          refine wpOp_of rfl rfl (wp_called (args := #[.agg (vecA a), .agg (vecA b)]) callM (by simp only [List.map_toArray, List.map_cons, List.map_nil]; rfl) (H2.out w95) ?_)
          rintro e w106 ⟨rfl, h108⟩
          refine ⟨_, rfl, ext_trans B96.out h108, ?_⟩
          simp only [Act.put, List.setIfInBounds_toArray, List.set_cons_zero, List.set_cons_succ]
          have B107 := Lib.hid (ext_trans B96.out h108)
          have G109 := Lib.hid (G102.out.ext h108)
          have G110 := Lib.hid (G105.out.ext h108)
          clear h108 B96 G102 G105
          refine wpAnyH_all (rs := [8]) (by kernel_rfl) (by simp) ?_
          intro i hi
          simp only [List.mem_cons, List.not_mem_nil, or_false] at hi
          subst hi
          refine wpOp_of rfl rfl (wp_stored (g := g65) rfl rfl G109.out (by rw [SJ.out]; exact info64) (by rw [SJ.out, S0.out]) OJ.out ?_)
          refine ⟨below_setRow B107.out le70 _, ?_⟩
          have B112 := Lib.hid (below_setRow B107.out le70 (vecA j))
          have G113 := Lib.hid (G109.out.row (vecA j))
          have G114 := Lib.hid (G110.out.rowFar (k := g65) (by first | exact ne103 | exact Ne.symm ne103) (vecA j))
          clear B107 G109 G110
          generalize w106.setRow g65 (vecA j) = w111 at *
          refine wpAnyH_all (rs := [9]) (by kernel_rfl) (by simp) ?_
          intro i hi
          simp only [List.mem_cons, List.not_mem_nil, or_false] at hi
          subst hi
          refine wpOp_of rfl rfl (wp_stored (g := g97) rfl rfl G114.out (by rw [SM.out]; exact info64) (by rw [SM.out, S0.out]) OM.out ?_)
          refine ⟨below_setRow B112.out le104 _, ?_⟩
          have B116 := Lib.hid (below_setRow B112.out le104 (vecA m))
          have G117 := Lib.hid (G114.out.row (vecA m))
          have G118 := Lib.hid (G113.out.rowFar (k := g97) (by first | exact ne103 | exact Ne.symm ne103) (vecA m))
          clear B112 G114 G113
          generalize w111.setRow g97 (vecA m) = w115 at *
          refine wpAnyH_done (by kernel_rfl) ?_ _
          go_wp2_with fail
          go_meet
          exact ⟨g65, g97, rfl, rfl, G118.out, G117.out, B116.out⟩
      · obtain ⟨g121, w119, r122, G123, le124, h125⟩ := alloc_new w1
        refine wpOp_of rfl rfl (wp_alloced r122 ?_)
        refine ⟨ext_trans B2.out h125, ?_⟩
        simp only [Act.put, List.setIfInBounds_toArray, List.set_cons_zero, List.set_cons_succ]
        have B120 := Lib.hid (ext_trans B2.out h125)
        have le126 : w0.heap.size ≤ g121 := Nat.le_trans B2.out.size le124
        have G127 := Lib.hid G123
        clear G123 r122 h125 B2 le124
        refine wpAnyH_all (rs := [5, 6]) (by kernel_rfl) (by simp) ?_
        intro i hi
        simp only [List.mem_cons, List.not_mem_nil, or_false] at hi
        rcases hi with rfl | rfl
        · refine wpOp_of rfl rfl (wp_called (args := #[.agg (vecA a), .agg (vecA b)]) callM (by simp only [List.map_toArray, List.map_cons, List.map_nil]; rfl) (H2.out w119) ?_)
          rintro e w128 ⟨rfl, h130⟩
          refine ⟨_, rfl, ext_trans B120.out h130, ?_⟩
          simp only [Act.put, List.setIfInBounds_toArray, List.set_cons_zero, List.set_cons_succ]
          have B129 := Lib.hid (ext_trans B120.out h130)
          have G131 := Lib.hid (G127.out.ext h130)
          clear h130 B120 G127
          refine wpAnyH_all (rs := [6]) (by kernel_rfl) (by simp) ?_
          intro i hi
          simp only [List.mem_cons, List.not_mem_nil, or_false] at hi
          subst hi
          obtain ⟨g134, w132, r135, G136, le137, h138⟩ := alloc_new w128
          refine wpOp_of rfl rfl (wp_alloced r135 ?_)
          refine ⟨ext_trans B129.out h138, ?_⟩
          simp only [Act.put, List.setIfInBounds_toArray, List.set_cons_zero, List.set_cons_succ]
          have B133 := Lib.hid (ext_trans B129.out h138)
          have ne140 : g121 ≠ g134 := by have := G131.out.lt; omega
          have G139 := Lib.hid (G131.out.ext h138)
          have le141 : w0.heap.size ≤ g134 := Nat.le_trans B129.out.size le137
          have G142 := Lib.hid G136
          clear G136 r135 h138 B129 le137 G131
          refine wpAnyH_all (rs := [8]) (by kernel_rfl) (by simp) ?_
          intro i hi
          simp only [List.mem_cons, List.not_mem_nil, or_false] at hi
          subst hi
          refine wpOp_of rfl rfl (wp_stored (g := g134) rfl rfl G142.out (by rw [SJ.out]; exact info64) (by rw [SJ.out, S0.out]) OJ.out ?_)
          refine ⟨below_setRow B133.out le141 _, ?_⟩
          have B144 := Lib.hid (below_setRow B133.out le141 (vecA j))
          have G145 := Lib.hid (G142.out.row (vecA j))
          have G146 := Lib.hid (G139.out.rowFar (k := g134) (by first | exact ne140 | exact Ne.symm ne140) (vecA j))
          clear B133 G142 G139
          generalize w132.setRow g134 (vecA j) = w143 at *
          refine wpAnyH_all (rs := [9]) (by kernel_rfl) (by simp) ?_
          intro i hi
          simp only [List.mem_cons, List.not_mem_nil, or_false] at hi
          subst hi
          refine wpOp_of rfl rfl (wp_stored (g := g121) rfl rfl G146.out (by rw [SM.out]; exact info64) (by rw [SM.out, S0.out]) OM.out ?_)
          refine ⟨below_setRow B144.out le126 _, ?_⟩
          have B148 := Lib.hid (below_setRow B144.out le126 (vecA m))
          have G149 := Lib.hid (G146.out.row (vecA m))
          have G150 := Lib.hid (G145.out.rowFar (k := g121) (by first | exact ne140 | exact Ne.symm ne140) (vecA m))
          clear B144 G146 G145
          generalize w143.setRow g121 (vecA m) = w147 at *
          refine wpAnyH_done (by kernel_rfl) ?_ _
          go_wp2_with fail
          go_meet
          exact ⟨g134, g121, rfl, rfl, G150.out, G149.out, B148.out⟩
        · obtain ⟨g153, w151, r154, G155, le156, h157⟩ := alloc_new w119
          refine wpOp_of rfl rfl (wp_alloced r154 ?_)
          refine ⟨ext_trans B120.out h157, ?_⟩
          simp only [Act.put, List.setIfInBounds_toArray, List.set_cons_zero, List.set_cons_succ]
          have B152 := Lib.hid (ext_trans B120.out h157)
          have ne159 : g121 ≠ g153 := by have := G127.out.lt; omega
          have G158 := Lib.hid (G127.out.ext h157)
          have le160 : w0.heap.size ≤ g153 := Nat.le_trans B120.out.size le156
          have G161 := Lib.hid G155
          clear G155 r154 h157 B120 le156 G127
          refine wpAnyH_all (rs := [5]) (by kernel_rfl) (by simp) ?_
          intro i hi
          simp only [List.mem_cons, List.not_mem_nil, or_false] at hi
          subst hi
          refine wpOp_of rfl rfl (wp_called (args := #[.agg (vecA a), .agg (vecA b)]) callM (by simp only [List.map_toArray, List.map_cons, List.map_nil]; rfl) (H2.out w151) ?_)
          rintro e w162 ⟨rfl, h164⟩
          refine ⟨_, rfl, ext_trans B152.out h164, ?_⟩
          simp only [Act.put, List.setIfInBounds_toArray, List.set_cons_zero, List.set_cons_succ]
          have B163 := Lib.hid (ext_trans B152.out h164)
          have G165 := Lib.hid (G161.out.ext h164)
          have G166 := Lib.hid (G158.out.ext h164)
          clear h164 B152 G161 G158
          refine wpAnyH_all (rs := [8]) (by kernel_rfl) (by simp) ?_
          intro i hi
          simp only [List.mem_cons, List.not_mem_nil, or_false] at hi
          subst hi
          refine wpOp_of rfl rfl (wp_stored (g := g153) rfl rfl G165.out (by rw [SJ.out]; exact info64) (by rw [SJ.out, S0.out]) OJ.out ?_)
          refine ⟨below_setRow B163.out le160 _, ?_⟩
          have B168 := Lib.hid (below_setRow B163.out le160 (vecA j))
          have G169 := Lib.hid (G165.out.row (vecA j))
          have G170 := Lib.hid (G166.out.rowFar (k := g153) (by first | exact ne159 | exact Ne.symm ne159) (vecA j))
          clear B163 G165 G166
          generalize w162.setRow g153 (vecA j) = w167 at *
          refine wpAnyH_all (rs := [9]) (by kernel_rfl) (by simp) ?_
          intro i hi
          simp only [List.mem_cons, List.not_mem_nil, or_false] at hi
          subst hi
          refine wpOp_of rfl rfl (wp_stored (g := g121) rfl rfl G170.out (by rw [SM.out]; exact info64) (by rw [SM.out, S0.out]) OM.out ?_)
          refine ⟨below_setRow B168.out le126 _, ?_⟩
          have B172 := Lib.hid (below_setRow B168.out le126 (vecA m))
          have G173 := Lib.hid (G170.out.row (vecA m))
          have G174 := Lib.hid (G169.out.rowFar (k := g121) (by first | exact ne159 | exact Ne.symm ne159) (vecA m))
          clear B168 G170 G169
          generalize w167.setRow g121 (vecA m) = w171 at *
          refine wpAnyH_done (by kernel_rfl) ?_ _
          go_wp2_with fail
          go_meet
          exact ⟨g153, g121, rfl, rfl, G174.out, G173.out, B172.out⟩
    · obtain ⟨g177, w175, r178, G179, le180, h181⟩ := alloc_new wd
      refine wpOp_of rfl rfl (wp_alloced r178 ?_)
      refine ⟨ext_trans B1.out h181, ?_⟩
      simp only [Act.put, List.setIfInBounds_toArray, List.set_cons_zero, List.set_cons_succ]
      have B176 := Lib.hid (ext_trans B1.out h181)
      have le182 : w0.heap.size ≤ g177 := Nat.le_trans B1.out.size le180
      have G183 := Lib.hid G179
      clear G179 r178 h181 B1 le180
      refine wpAnyH_all (rs := [2, 7]) (by kernel_rfl) (by simp) ?_
      intro i hi
      simp only [List.mem_cons, List.not_mem_nil, or_false] at hi
      rcases hi with rfl | rfl
      · refine wpOp_of rfl rfl (wp_called (args := #[.agg (vecA a), .agg (vecA b)]) callJ (by simp only [List.map_toArray, List.map_cons, List.map_nil]; rfl) (H1.out w175) ?_)
        rintro e w184 ⟨rfl, h186⟩
        refine ⟨_, rfl, ext_trans B176.out h186, ?_⟩
        simp only [Act.put, List.setIfInBounds_toArray, List.set_cons_zero, List.set_cons_succ]
        have B185 := Lib.hid (ext_trans B176.out h186)
        have G187 := Lib.hid (G183.out.ext h186)
        clear h186 B176 G183
        refine wpAnyH_all (rs := [5, 7]) (by kernel_rfl) (by simp) ?_
        intro i hi
        simp only [List.mem_cons, List.not_mem_nil, or_false] at hi
        rcases hi with rfl | rfl
        · refine wpOp_of rfl rfl (wp_called (args := #[.agg (vecA a), .agg (vecA b)]) callM (by simp only [List.map_toArray, List.map_cons, List.map_nil]; rfl) (H2.out w184) ?_)
          rintro e w188 ⟨rfl, h190⟩
          refine ⟨_, rfl, ext_trans B185.out h190, ?_⟩
          simp only [Act.put, List.setIfInBounds_toArray, List.set_cons_zero, List.set_cons_succ]
          have B189 := Lib.hid (ext_trans B185.out h190)
          have G191 := Lib.hid (G187.out.ext h190)
          clear h190 B185 G187
          refine wpAnyH_all (rs := [7]) (by kernel_rfl) (by simp) ?_
          intro i hi
          simp only [List.mem_cons, List.not_mem_nil, or_false] at hi
          subst hi
          obtain ⟨g194, w192, r195, G196, le197, h198⟩ := alloc_new w188
          refine wpOp_of rfl rfl (wp_alloced r195 ?_)
          refine ⟨ext_trans B189.out h198, ?_⟩
          simp only [Act.put, List.setIfInBounds_toArray, List.set_cons_zero, List.set_cons_succ]
          have B193 := Lib.hid (ext_trans B189.out h198)
          have ne200 : g177 ≠ g194 := by have := G191.out.lt; omega
          have G199 := Lib.hid (G191.out.ext h198)
          have le201 : w0.heap.size ≤ g194 := Nat.le_trans B189.out.size le197
          have G202 := Lib.hid G196
          clear G196 r195 h198 B189 le197 G191
          refine wpAnyH_all (rs := [8]) (by kernel_rfl) (by simp) ?_
          intro i hi
          simp only [List.mem_cons, List.not_mem_nil, or_false] at hi
          subst hi
          refine wpOp_of rfl rfl (wp_stored (g := g177) rfl rfl G199.out (by rw [SJ.out]; exact info64) (by rw [SJ.out, S0.out]) OJ.out ?_)
          refine ⟨below_setRow B193.out le182 _, ?_⟩
          have B204 := Lib.hid (below_setRow B193.out le182 (vecA j))
          have G205 := Lib.hid (G199.out.row (vecA j))
          have G206 := Lib.hid (G202.out.rowFar (k := g177) (by first | exact ne200 | exact Ne.symm ne200) (vecA j))
          clear B193 G199 G202
          generalize w192.setRow g177 (vecA j) = w203 at *
          refine wpAnyH_all (rs := [9]) (by kernel_rfl) (by simp) ?_
          intro i hi
          simp only [List.mem_cons, List.not_mem_nil, or_false] at hi
          subst hi
          refine wpOp_of rfl rfl (wp_stored (g := g194) rfl rfl G206.out (by rw [SM.out]; exact info64) (by rw [SM.out, S0.out]) OM.out ?_)
          refine ⟨below_setRow B204.out le201 _, ?_⟩
          have B208 := Lib.hid (below_setRow B204.out le201 (vecA m))
          have G209 := Lib.hid (G206.out.row (vecA m))
          have G210 := Lib.hid (G205.out.rowFar (k := g194) (by first | exact ne200 | exact Ne.symm ne200) (vecA m))
          clear B204 G206 G205
          generalize w203.setRow g194 (vecA m) = w207 at *
          refine wpAnyH_done (by kernel_rfl) ?_ _
          go_wp2_with fail
          go_meet
          exact ⟨g177, g194, rfl, rfl, G210.out, G209.out, B208.out⟩
        · obtain ⟨g213, w211, r214, G215, le216, h217⟩ := alloc_new w184
          refine wpOp_of rfl rfl (wp_alloced r214 ?_)
          refine ⟨ext_trans B185.out h217, ?_⟩
          simp only [Act.put, List.setIfInBounds_toArray, List.set_cons_zero, List.set_cons_succ]
          have B212 := Lib.hid (ext_trans B185.out h217)
          have ne219 : g177 ≠ g213 := by have := G187.out.lt; omega
          have G218 := Lib.hid (G187.out.ext h217)
          have le220 : w0.heap.size ≤ g213 := Nat.le_trans B185.out.size le216
          have G221 := Lib.hid G215
          clear G215 r214 h217 B185 le216 G187
          refine wpAnyH_all (rs := [5]) (by kernel_rfl) (by simp) ?_
          intro i hi
          simp only [List.mem_cons, List.not_mem_nil, or_false] at hi
          subst hi
          refine wpOp_of rfl rfl (wp_called (args := #[.agg (vecA a), .agg (vecA b)]) callM (by simp only [List.map_toArray, List.map_cons, List.map_nil]; rfl) (H2.out w211) ?_)
          rintro e w222 ⟨rfl, h224⟩
          refine ⟨_, rfl, ext_trans B212.out h224, ?_⟩
          simp only [Act.put, List.setIfInBounds_toArray, List.set_cons_zero, List.set_cons_succ]
          have B223 := Lib.hid (ext_trans B212.out h224)
          have G225 := Lib.hid (G218.out.ext h224)
          have G226 := Lib.hid (G221.out.ext h224)
          clear h224 B212 G218 G221
          refine wpAnyH_all (rs := [8]) (by kernel_rfl) (by simp) ?_
          intro i hi
          simp only [List.mem_cons, List.not_mem_nil, or_false] at hi
          subst hi
          refine wpOp_of rfl rfl (wp_stored (g := g177) rfl rfl G225.out (by rw [SJ.out]; exact info64) (by rw [SJ.out, S0.out]) OJ.out ?_)
          refine ⟨below_setRow B223.out le182 _, ?_⟩
          have B228 := Lib.hid (below_setRow B223.out le182 (vecA j))
          have G229 := Lib.hid (G225.out.row (vecA j))
          have G230 := Lib.hid (G226.out.rowFar (k := g177) (by first | exact ne219 | exact Ne.symm ne219) (vecA j))
          clear B223 G225 G226
          generalize w222.setRow g177 (vecA j) = w227 at *
          refine wpAnyH_all (rs := [9]) (by kernel_rfl) (by simp) ?_
          intro i hi
          simp only [List.mem_cons, List.not_mem_nil, or_false] at hi
          subst hi
          refine wpOp_of rfl rfl (wp_stored (g := g213) rfl rfl G230.out (by rw [SM.out]; exact info64) (by rw [SM.out, S0.out]) OM.out ?_)
          refine ⟨below_setRow B228.out le220 _, ?_⟩
          have B232 := Lib.hid (below_setRow B228.out le220 (vecA m))
          have G233 := Lib.hid (G230.out.row (vecA m))
          have G234 := Lib.hid (G229.out.rowFar (k := g213) (by first | exact ne219 | exact Ne.symm ne219) (vecA m))
          clear B228 G230 G229
          generalize w227.setRow g213 (vecA m) = w231 at *
          refine wpAnyH_done (by kernel_rfl) ?_ _
          go_wp2_with fail
          go_meet
          exact ⟨g177, g213, rfl, rfl, G234.out, G233.out, B232.out⟩
      · obtain ⟨g237, w235, r238, G239, le240, h241⟩ := alloc_new w175
        refine wpOp_of rfl rfl (wp_alloced r238 ?_)
        refine ⟨ext_trans B176.out h241, ?_⟩
        simp only [Act.put, List.setIfInBounds_toArray, List.set_cons_zero, List.set_cons_succ]
        have B236 := Lib.hid (ext_trans B176.out h241)
        have ne243 : g177 ≠ g237 := by have := G183.out.lt; omega
        have G242 := Lib.hid (G183.out.ext h241)
        have le244 : w0.heap.size ≤ g237 := Nat.le_trans B176.out.size le240
        have G245 := Lib.hid G239
        clear G239 r238 h241 B176 le240 G183
        refine wpAnyH_all (rs := [2]) (by kernel_rfl) (by simp) ?_
        intro i hi
        simp only [List.mem_cons, List.not_mem_nil, or_false] at hi
        subst hi
        refine wpOp_of rfl rfl (wp_called (args := #[.agg (vecA a), .agg (vecA b)]) callJ (by simp only [List.map_toArray, List.map_cons, List.map_nil]; rfl) (H1.out w235) ?_)
        rintro e w246 ⟨rfl, h248⟩
        refine ⟨_, rfl, ext_trans B236.out h248, ?_⟩
        simp only [Act.put, List.setIfInBounds_toArray, List.set_cons_zero, List.set_cons_succ]
        have B247 := Lib.hid (ext_trans B236.out h248)
        have G249 := Lib.hid (G242.out.ext h248)
        have G250 := Lib.hid (G245.out.ext h248)
        clear h248 B236 G242 G245
        refine wpAnyH_all (rs := [5]) (by kernel_rfl) (by simp) ?_
        intro i hi
        simp only [List.mem_cons, List.not_mem_nil, or_false] at hi
        subst hi
        refine wpOp_of rfl rfl (wp_called (args := #[.agg (vecA a), .agg (vecA b)]) callM (by simp only [List.map_toArray, List.map_cons, List.map_nil]; rfl) (H2.out w246) ?_)
        rintro e w251 ⟨rfl, h253⟩
        refine ⟨_, rfl, ext_trans B247.out h253, ?_⟩
        simp only [Act.put, List.setIfInBounds_toArray, List.set_cons_zero, List.set_cons_succ]
        have B252 := Lib.hid (ext_trans B247.out h253)
        have G254 := Lib.hid (G249.out.ext h253)
        have G255 := Lib.hid (G250.out.ext h253)
        clear h253 B247 G249 G250
        refine wpAnyH_all (rs := [8]) (by kernel_rfl) (by simp) ?_
        intro i hi
        simp only [List.mem_cons, List.not_mem_nil, or_false] at hi
        subst hi
        refine wpOp_of rfl rfl (wp_stored (g := g177) rfl rfl G254.out (by rw [SJ.out]; exact info64) (by rw [SJ.out, S0.out]) OJ.out ?_)
        refine ⟨below_setRow B252.out le182 _, ?_⟩
        have B257 := Lib.hid (below_setRow B252.out le182 (vecA j))
        have G258 := Lib.hid (G254.out.row (vecA j))
        have G259 := Lib.hid (G255.out.rowFar (k := g177) (by first | exact ne243 | exact Ne.symm ne243) (vecA j))
        clear B252 G254 G255
        generalize w251.setRow g177 (vecA j) = w256 at *
        refine wpAnyH_all (rs := [9]) (by kernel_rfl) (by simp) ?_
        intro i hi
        simp only [List.mem_cons, List.not_mem_nil, or_false] at hi
        subst hi
        refine wpOp_of rfl rfl (wp_stored (g := g237) rfl rfl G259.out (by rw [SM.out]; exact info64) (by rw [SM.out, S0.out]) OM.out ?_)
        refine ⟨below_setRow B257.out le244 _, ?_⟩
        have B261 := Lib.hid (below_setRow B257.out le244 (vecA m))
        have G262 := Lib.hid (G259.out.row (vecA m))
        have G263 := Lib.hid (G258.out.rowFar (k := g237) (by first | exact ne243 | exact Ne.symm ne243) (vecA m))
        clear B257 G259 G258
        generalize w256.setRow g237 (vecA m) = w260 at *
        refine wpAnyH_done (by kernel_rfl) ?_ _
        go_wp2_with fail
        go_meet
        exact ⟨g177, g237, rfl, rfl, G263.out, G262.out, B261.out⟩
    · obtain ⟨g266, w264, r267, G268, le269, h270⟩ := alloc_new wd
      refine wpOp_of rfl rfl (wp_alloced r267 ?_)
      refine ⟨ext_trans B1.out h270, ?_⟩
      simp only [Act.put, List.setIfInBounds_toArray, List.set_cons_zero, List.set_cons_succ]
      have B265 := Lib.hid (ext_trans B1.out h270)
      have le271 : w0.heap.size ≤ g266 := Nat.le_trans B1.out.size le269
      have G272 := Lib.hid G268
      clear G268 r267 h270 B1 le269
      refine wpAnyH_all (rs := [2, 6]) (by kernel_rfl) (by simp) ?_
      intro i hi
      simp only [List.mem_cons, List.not_mem_nil, or_false] at hi
      rcases hi with rfl | rfl
      · refine wpOp_of rfl rfl (wp_called (args := #[.agg (vecA a), .agg (vecA b)]) callJ (by simp only [List.map_toArray, List.map_cons, List.map_nil]; rfl) (H1.out w264) ?_)
        rintro e w273 ⟨rfl, h275⟩
        refine ⟨_, rfl, ext_trans B265.out h275, ?_⟩
        simp only [Act.put, List.setIfInBounds_toArray, List.set_cons_zero, List.set_cons_succ]
        have B274 := Lib.hid (ext_trans B265.out h275)
        have G276 := Lib.hid (G272.out.ext h275)
        clear h275 B265 G272
        refine wpAnyH_all (rs := [5, 6]) (by kernel_rfl) (by simp) ?_
        intro i hi
        simp only [List.mem_cons, List.not_mem_nil, or_false] at hi
        rcases hi with rfl | rfl
        · refine wpOp_of rfl rfl (wp_called (args := #[.agg (vecA a), .agg (vecA b)]) callM (by simp only [List.map_toArray, List.map_cons, List.map_nil]; rfl) (H2.out w273) ?_)
          rintro e w277 ⟨rfl, h279⟩
          refine ⟨_, rfl, ext_trans B274.out h279, ?_⟩
          simp only [Act.put, List.setIfInBounds_toArray, List.set_cons_zero, List.set_cons_succ]
          have B278 := Lib.hid (ext_trans B274.out h279)
          have G280 := Lib.hid (G276.out.ext h279)
          clear h279 B274 G276
          refine wpAnyH_all (rs := [6]) (by kernel_rfl) (by simp) ?_
          intro i hi
          simp only [List.mem_cons, List.not_mem_nil, or_false] at hi
          subst hi
          obtain ⟨g283, w281, r284, G285, le286, h287⟩ := alloc_new w277
          refine wpOp_of rfl rfl (wp_alloced r284 ?_)
          refine ⟨ext_trans B278.out h287, ?_⟩
          simp only [Act.put, List.setIfInBounds_toArray, List.set_cons_zero, List.set_cons_succ]
          have B282 := Lib.hid (ext_trans B278.out h287)
          have ne289 : g266 ≠ g283 := by have := G280.out.lt; omega
          have G288 := Lib.hid (G280.out.ext h287)
          have le290 : w0.heap.size ≤ g283 := Nat.le_trans B278.out.size le286
          have G291 := Lib.hid G285
          clear G285 r284 h287 B278 le286 G280
          refine wpAnyH_all (rs := [8]) (by kernel_rfl) (by simp) ?_
          intro i hi
          simp only [List.mem_cons, List.not_mem_nil, or_false] at hi
          subst hi
          refine wpOp_of rfl rfl (wp_stored (g := g283) rfl rfl G291.out (by rw [SJ.out]; exact info64) (by rw [SJ.out, S0.out]) OJ.out ?_)
          refine ⟨below_setRow B282.out le290 _, ?_⟩
          have B293 := Lib.hid (below_setRow B282.out le290 (vecA j))
          have G294 := Lib.hid (G291.out.row (vecA j))
          have G295 := Lib.hid (G288.out.rowFar (k := g283) (by first | exact ne289 | exact Ne.symm ne289) (vecA j))
          clear B282 G291 G288
          generalize w281.setRow g283 (vecA j) = w292 at *
          refine wpAnyH_all (rs := [9]) (by kernel_rfl) (by simp) ?_
          intro i hi
          simp only [List.mem_cons, List.not_mem_nil, or_false] at hi
          subst hi
          refine wpOp_of rfl rfl (wp_stored (g := g266) rfl rfl G295.out (by rw [SM.out]; exact info64) (by rw [SM.out, S0.out]) OM.out ?_)
          refine ⟨below_setRow B293.out le271 _, ?_⟩
          have B297 := Lib.hid (below_setRow B293.out le271 (vecA m))
          have G298 := Lib.hid (G295.out.row (vecA m))
          have G299 := Lib.hid (G294.out.rowFar (k := g266) (by first | exact ne289 | exact Ne.symm ne289) (vecA m))
          clear B293 G295 G294
          generalize w292.setRow g266 (vecA m) = w296 at *
          refine wpAnyH_done (by kernel_rfl) ?_ _
          go_wp2_with fail
          go_meet
          exact ⟨g283, g266, rfl, rfl, G299.out, G298.out, B297.out⟩
        · obtain ⟨g302, w300, r303, G304, le305, h306⟩ := alloc_new w273
          refine wpOp_of rfl rfl (wp_alloced r303 ?_)
          refine ⟨ext_trans B274.out h306, ?_⟩
          simp only [Act.put, List.setIfInBounds_toArray, List.set_cons_zero, List.set_cons_succ]
          have B301 := Lib.hid (ext_trans B274.out h306)
          have ne308 : g266 ≠ g302 := by have := G276.out.lt; omega
          have G307 := Lib.hid (G276.out.ext h306)
          have le309 : w0.heap.size ≤ g302 := Nat.le_trans B274.out.size le305
          have G310 := Lib.hid G304
          clear G304 r303 h306 B274 le305 G276
          refine wpAnyH_all (rs := [5]) (by kernel_rfl) (by simp) ?_
          intro i hi
          simp only [List.mem_cons, List.not_mem_nil, or_false] at hi
          subst hi
          refine wpOp_of rfl rfl (wp_called (args := #[.agg (vecA a), .agg (vecA b)]) callM (by simp only [List.map_toArray, List.map_cons, List.map_nil]; rfl) (H2.out w300) ?_)
          rintro e w311 ⟨rfl, h313⟩
          refine ⟨_, rfl, ext_trans B301.out h313, ?_⟩
          simp only [Act.put, List.setIfInBounds_toArray, List.set_cons_zero, List.set_cons_succ]
          have B312 := Lib.hid (ext_trans B301.out h313)
          have G314 := Lib.hid (G310.out.ext h313)
          have G315 := Lib.hid (G307.out.ext h313)
          clear h313 B301 G310 G307
          refine wpAnyH_all (rs := [8]) (by kernel_rfl) (by simp) ?_
          intro i hi
          simp only [List.mem_cons, List.not_mem_nil, or_false] at hi
          subst hi
          refine wpOp_of rfl rfl (wp_stored (g := g302) rfl rfl G314.out (by rw [SJ.out]; exact info64) (by rw [SJ.out, S0.out]) OJ.out ?_)
          refine ⟨below_setRow B312.out le309 _, ?_⟩
          have B317 := Lib.hid (below_setRow B312.out le309 (vecA j))
          have G318 := Lib.hid (G314.out.row (vecA j))
          have G319 := Lib.hid (G315.out.rowFar (k := g302) (by first | exact ne308 | exact Ne.symm ne308) (vecA j))
          clear B312 G314 G315
          generalize w311.setRow g302 (vecA j) = w316 at *
          refine wpAnyH_all (rs := [9]) (by kernel_rfl) (by simp) ?_
          intro i hi
          simp only [List.mem_cons, List.not_mem_nil, or_false] at hi
          subst hi
          refine wpOp_of rfl rfl (wp_stored (g := g266) rfl rfl G319.out (by rw [SM.out]; exact info64) (by rw [SM.out, S0.out]) OM.out ?_)
          refine ⟨below_setRow B317.out le271 _, ?_⟩
          have B321 := Lib.hid (below_setRow B317.out le271 (vecA m))
          have G322 := Lib.hid (G319.out.row (vecA m))
          have G323 := Lib.hid (G318.out.rowFar (k := g266) (by first | exact ne308 | exact Ne.symm ne308) (vecA m))
          clear B317 G319 G318
          generalize w316.setRow g266 (vecA m) = w320 at *
          refine wpAnyH_done (by kernel_rfl) ?_ _
          go_wp2_with fail
          go_meet
          exact ⟨g302, g266, rfl, rfl, G323.out, G322.out, B321.out⟩
      · obtain ⟨g326, w324, r327, G328, le329, h330⟩ := alloc_new w264
        refine wpOp_of rfl rfl (wp_alloced r327 ?_)
        refine ⟨ext_trans B265.out h330, ?_⟩
        simp only [Act.put, List.setIfInBounds_toArray, List.set_cons_zero, List.set_cons_succ]
        have B325 := Lib.hid (ext_trans B265.out h330)
        have ne332 : g266 ≠ g326 := by have := G272.out.lt; omega
        have G331 := Lib.hid (G272.out.ext h330)
        have le333 : w0.heap.size ≤ g326 := Nat.le_trans B265.out.size le329
        have G334 := Lib.hid G328
        clear G328 r327 h330 B265 le329 G272
        refine wpAnyH_all (rs := [2]) (by kernel_rfl) (by simp) ?_
        intro i hi
        simp only [List.mem_cons, List.not_mem_nil, or_false] at hi
        subst hi
        refine wpOp_of rfl rfl (wp_called (args := #[.agg (vecA a), .agg (vecA b)]) callJ (by simp only [List.map_toArray, List.map_cons, List.map_nil]; rfl) (H1.out w324) ?_)
        rintro e w335 ⟨rfl, h337⟩
        refine ⟨_, rfl, ext_trans B325.out h337, ?_⟩
        simp only [Act.put, List.setIfInBounds_toArray, List.set_cons_zero, List.set_cons_succ]
        have B336 := Lib.hid (ext_trans B325.out h337)
        have G338 := Lib.hid (G334.out.ext h337)
        have G339 := Lib.hid (G331.out.ext h337)
        clear h337 B325 G334 G331
        refine wpAnyH_all (rs := [5]) (by kernel_rfl) (by simp) ?_
        intro i hi
        simp only [List.mem_cons, List.not_mem_nil, or_false] at hi
        subst hi
        refine wpOp_of rfl rfl (wp_called (args := #[.agg (vecA a), .agg (vecA b)]) callM (by simp only [List.map_toArray, List.map_cons, List.map_nil]; rfl) (H2.out w335) ?_)
        rintro e w340 ⟨rfl, h342⟩
        refine ⟨_, rfl, ext_trans B336.out h342, ?_⟩
        simp only [Act.put, List.setIfInBounds_toArray, List.set_cons_zero, List.set_cons_succ]
        have B341 := Lib.hid (ext_trans B336.out h342)
        have G343 := Lib.hid (G338.out.ext h342)
        have G344 := Lib.hid (G339.out.ext h342)
        clear h342 B336 G338 G339
        refine wpAnyH_all (rs := [8]) (by kernel_rfl) (by simp) ?_
        intro i hi
        simp only [List.mem_cons, List.not_mem_nil, or_false] at hi
        subst hi
        refine wpOp_of rfl rfl (wp_stored (g := g326) rfl rfl G343.out (by rw [SJ.out]; exact info64) (by rw [SJ.out, S0.out]) OJ.out ?_)
        refine ⟨below_setRow B341.out le333 _, ?_⟩
        have B346 := Lib.hid (below_setRow B341.out le333 (vecA j))
        have G347 := Lib.hid (G343.out.row (vecA j))
        have G348 := Lib.hid (G344.out.rowFar (k := g326) (by first | exact ne332 | exact Ne.symm ne332) (vecA j))
        clear B341 G343 G344
        generalize w340.setRow g326 (vecA j) = w345 at *
        refine wpAnyH_all (rs := [9]) (by kernel_rfl) (by simp) ?_
        intro i hi
        simp only [List.mem_cons, List.not_mem_nil, or_false] at hi
        subst hi
        refine wpOp_of rfl rfl (wp_stored (g := g266) rfl rfl G348.out (by rw [SM.out]; exact info64) (by rw [SM.out, S0.out]) OM.out ?_)
        refine ⟨below_setRow B346.out le271 _, ?_⟩
        have B350 := Lib.hid (below_setRow B346.out le271 (vecA m))
        have G351 := Lib.hid (G348.out.row (vecA m))
        have G352 := Lib.hid (G347.out.rowFar (k := g266) (by first | exact ne332 | exact Ne.symm ne332) (vecA m))
        clear B346 G348 G347
        generalize w345.setRow g266 (vecA m) = w349 at *
        refine wpAnyH_done (by kernel_rfl) ?_ _
        go_wp2_with fail
        go_meet
        exact ⟨g326, g266, rfl, rfl, G352.out, G351.out, B350.out⟩
  case rest =>
    obtain ⟨g7, g8, rfl, rfl, j1, m1, hbw⟩ := hcut
    have L1 := Lib.hid (K1.out.ext hbw)
    have L2 := Lib.hid (K2.out.ext hbw)
    have L3 := Lib.hid (K3.out.ext hbw)
    have L7 := Lib.hid j1
    have L8 := Lib.hid m1
    have B1 := Lib.hid (ext_trans B0.out hbw)
    clear K1 K2 K3 j1 m1 B0 hbw
    generalize joinV a b = j at *
    generalize meetV a b = m at *
    go_wp2_with fail
    obtain ⟨wA, rfl⟩ : ∃ wA : World, wA = wc := ⟨_, rfl⟩
    go_cut [43] (fun s43 wx => s43 = .bool false ∧ Below wA.heap.size wA wx)
    case first =>
      have q0 : ∀ z : Ext wA, z.w.cell? ⟨w.heap.size + 1 + 1, 0, none⟩ = some (.int .u8 n) := fun z => (L3.out.ext z.h).cell 0
      have q1 : ∀ z : Ext wA, z.w.cell? ⟨w.heap.size + 1 + 1, 1, none⟩ = some (.int .u16 s) := fun z => (L3.out.ext z.h).cell 1
      generalize hasV a n s = x at *
      generalize hasV b n s = y at *
      cases x <;> cases y <;> simp only [Bool.or_true, Bool.or_false, Bool.and_true, Bool.and_false] at HJ HM
      all_goals
        refine wp_region_ext mixed (by kernel_rfl) ?_
        repeat (first
          | go_big_quiet_skip
          | (refine wpQuiet_load_row L1.out under64 rfl (by rw [z1.out]; exact info64) rfl rfl ?_; simp only [List.set_cons_succ, List.set_cons_zero])
          | (refine wpQuiet_load_row L2.out under64 rfl (by rw [z2.out]; exact info64) rfl rfl ?_; simp only [List.set_cons_succ, List.set_cons_zero])
          | (refine wpQuiet_load_row L7.out under64 rfl (by rw [z3.out]; exact info64) rfl rfl ?_; simp only [List.set_cons_succ, List.set_cons_zero])
          | (refine wpQuiet_load_row L8.out under64 rfl (by rw [z4.out]; exact info64) rfl rfl ?_; simp only [List.set_cons_succ, List.set_cons_zero])
          | go_big_quiet_step ((first | (go_at_call 27; with_reducible exact ext_call (HJ.out _)) | (go_at_call 27; with_reducible exact ext_call (HM.out _)) | (go_at_call 27; with_reducible exact ext_call (HA.out _)) | (go_at_call 27; with_reducible exact ext_call (HB.out _)))))
        refine wpQuiet_nil ?_
        rintro _ ⟨z, rfl⟩
        go_wp2_with fail
        go_meet
        exact ⟨rfl, z.h⟩
    case rest =>
      obtain ⟨rfl, hb2⟩ := hcut
      replace L1 := Lib.hid (L1.out.ext hb2)
      replace L2 := Lib.hid (L2.out.ext hb2)
      replace L3 := Lib.hid (L3.out.ext hb2)
      replace L7 := Lib.hid (L7.out.ext hb2)
      replace L8 := Lib.hid (L8.out.ext hb2)
      replace B1 := Lib.hid (ext_trans B1.out hb2)
      clear hb2 HJ HM HA HB
      have p0 := L3.out.cell 0
      simp at p0
      go_wp2_with (refine wpList_load_row rfl 24 _ (by rfl) w.heap.size (by rfl) _ _ _ _ L1.out under64 rfl (by rw [z1.out]; exact info64) ?_)
      have CT : ∃ (x y : Nat) (c : List Int) (ok : Bool), VecOk c ∧ Hid (x < 256) ∧ Hid ((y : Int) < 65536) ∧ Hid (nextV a n = ((x : Int), (y : Int))) ∧ Hid (putV a x y = c) ∧ Hid (putOk a x y = ok) ∧
          ((ok = true ∧ x = n ∧ 1 ≤ y ∧ Hid (hasV c n y = true) ∧ Hid (hasV a n y = false) ∧ Hid (totV c = totV a + 1) ∧ Hid (withinV a c = true) ∧ Hid (s ≠ (y : Int) → hasV c n s = hasV a n s)) ∨ (ok = false ∧ x = 0 ∧ y = 0)) := by
        by_cases hc : inV n = true ∧ ofV a n < 60000
        · obtain ⟨e1, e2, e3⟩ := next_put hc
          have hy := ofV_bd ha n
          have C := putV_ok ha n (ofV a n + 1)
          rw [e3] at C
          have ey : ((ofV a n + 1).toNat : Int) = ofV a n + 1 := by omega
          have hh := hasV_new ha hc.1
          exact ⟨n, (ofV a n + 1).toNat, _, true, C, hn, by rw [Hid]; omega, by rw [Hid, e1, ey], by rw [Hid, ey, e3], by rw [Hid, ey, e2], .inl ⟨rfl, rfl, by omega, by rw [Hid, ey]; exact hh.1, by rw [Hid, ey]; exact hh.2, totV_set ha hc.1, within_set ha hc.1 C, by rw [Hid, ey]; exact fun h => hasV_next ha hc.1 s h⟩⟩
        · obtain ⟨e1, e2⟩ := next_none hc
          exact ⟨0, 0, a, false, ha, by rw [Hid]; omega, by rw [Hid]; omega, by rw [Hid, e1]; rfl, by rw [Hid]; unfold putV; rw [show (((0 : Nat) : Int)) = 0 from rfl, e2]; rfl, by rw [Hid]; exact e2, .inr ⟨rfl, rfl, rfl⟩⟩
      obtain ⟨x, y, c, ok, hC, hx, hy, N1, P1, P2, CS⟩ := CT
      have HP := Lib.hid (fun w0 => put_any a ha x hx.out y ⟨by omega, hy.out⟩ w0)
      rw [N1.out] at HN
      rw [P1.out, P2.out] at HP
      have HC := Lib.hid (fun (s' : Int) w0 => has_any c hC n hn s' w0)
      have HA := Lib.hid (fun (s' : Int) w0 => has_any a ha n hn s' w0)
      have HTC := Lib.hid (fun w0 => total_any c hC w0)
      have WC := Lib.hid (fun w0 => within_any a c ha hC w0)
      have z5 : Hid ((vecA c).size = 64) := by rw [Hid, vecA_size]; exact hC.len
      have o5 := Lib.hid (vecA_one c)
      clear N1 P1 P2 hC ha hb
      have CSH := Lib.hid CS
      clear CS
      refine (HN.out _).mono ?_
      rintro e w1 ⟨rfl, b1⟩
      replace L1 := Lib.hid (L1.out.ext b1)
      replace L2 := Lib.hid (L2.out.ext b1)
      replace L3 := Lib.hid (L3.out.ext b1)
      replace L7 := Lib.hid (L7.out.ext b1)
      replace L8 := Lib.hid (L8.out.ext b1)
      replace B1 := Lib.hid (ext_trans B1.out b1)
      have b2 : Below w1.heap.size w1 (w1.alloc (.cells #[.int .u8 x, .int .u16 y] 38)) := (Below.refl _ _).alloc (Nat.le_refl _) _
      have b3 := b2
      have L9 := Lib.hid (Blk.new w1 38 #[.int .u8 x, .int .u16 y])
      replace L1 := Lib.hid (L1.out.ext b2)
      replace L2 := Lib.hid (L2.out.ext b2)
      replace L3 := Lib.hid (L3.out.ext b2)
      replace L7 := Lib.hid (L7.out.ext b2)
      replace L8 := Lib.hid (L8.out.ext b2)
      replace B1 := Lib.hid (ext_trans B1.out b2)
      clear b1 b2 b3 HN p0
      go_wp2_with (refine wpList_load_row rfl 24 _ (by rfl) w.heap.size (by rfl) _ _ _ _ L1.out under64 rfl (by rw [z1.out]; exact info64) ?_)
      generalize (w1.alloc (.cells #[.int .u8 x, .int .u16 y] 38)) = w2 at *
      generalize w1.heap.size = g9 at *
      refine (HP.out _).mono ?_
      rintro e w3 ⟨rfl, b3⟩
      have b4 : Below w3.heap.size w3 ((w3.alloc (.cells (vecA vec0) 24)).setRow w3.heap.size (vecA c)) := below_setRow ((Below.refl _ _).alloc (Nat.le_refl _) _) (Nat.le_refl _) _
      have b5 := ext_trans b3 b4
      have L10 : Hid (Blk ((w3.alloc (.cells (vecA vec0) 24)).setRow w3.heap.size (vecA c)) w3.heap.size 24 (vecA c)) := (Blk.new _ _ _).row _
      replace L1 := Lib.hid (L1.out.ext b5)
      replace L2 := Lib.hid (L2.out.ext b5)
      replace L3 := Lib.hid (L3.out.ext b5)
      replace L7 := Lib.hid (L7.out.ext b5)
      replace L8 := Lib.hid (L8.out.ext b5)
      replace L9 := Lib.hid (L9.out.ext b5)
      replace B1 := Lib.hid (ext_trans B1.out b5)
      have z0 : Hid ((vecA vec0).size = 64) := by rw [Hid, vecA_size]; simp [vec0]
      clear b3 b4 b5 HP
      go_wp2_with (first
        | (refine wpList_alloced (alloc64 _) ?_)
        | (refine wpList_store_row rfl 24 _ _ (by rfl) w3.heap.size _ (by rfl) (by rfl) _ _ (heap_alloc_new _ _) (by rw [z5.out]; exact info64) (by rw [z5.out, z0.out]) o5.out ?_))
      generalize ((w3.alloc (.cells (vecA vec0) 24)).setRow w3.heap.size (vecA c)) = w4 at *
      generalize w3.heap.size = g10 at *
      go_cut [100] (fun s100 wx => s100 = .bool false ∧ Below w4.heap.size w4 wx)
      case first =>
        have q0 : ∀ z : Ext w4, z.w.cell? ⟨w.heap.size + 1 + 1, 0, none⟩ = some (.int .u8 n) := fun z => (L3.out.ext z.h).cell 0
        have q1 : ∀ z : Ext w4, z.w.cell? ⟨w.heap.size + 1 + 1, 1, none⟩ = some (.int .u16 s) := fun z => (L3.out.ext z.h).cell 1
        have q2 : ∀ z : Ext w4, z.w.cell? ⟨g9, 0, none⟩ = some (.int .u8 x) := fun z => (L9.out.ext z.h).cell 0
        have q3 : ∀ z : Ext w4, z.w.cell? ⟨g9, 1, none⟩ = some (.int .u16 y) := fun z => (L9.out.ext z.h).cell 1
        have HC1 := Lib.hid (HC.out (y : Int))
        have HA1 := Lib.hid (HA.out (y : Int))
        have HC2 := Lib.hid (HC.out s)
        have HA2 := Lib.hid (HA.out s)
        clear HC HA W1 W2 W3 LK LW TS HTJ HTM HT2
        have CS := CSH.out
        clear CSH
        rcases CS with ⟨rfl, ex, hy1, h1, h2, h3, h4, h5⟩ | ⟨rfl, ex, ey⟩
        · subst ex
          rw [h1.out] at HC1
          rw [h2.out] at HA1
          rw [h3.out] at HTC
          rw [h4.out] at WC
          have CS2 : ((y : Int) = s) ∨ (¬ (y : Int) = s ∧ Hid (hasV c x s = hasV a x s)) := by
            by_cases h : (y : Int) = s
            · exact .inl h
            · exact .inr ⟨h, h5.out (fun e => h e.symm)⟩
          clear h1 h2 h3 h4 h5
          generalize totV a = ta at *
          have hy0 : ¬ (y : Int) = 0 := by omega
          have hy0' : ¬ y = 0 := by omega
          rcases CS2 with rfl | ⟨hys, hsame⟩
          · refine wp_region_ext mixed (by kernel_rfl) ?_
            repeat (first
              | go_big_quiet_skip
              | (refine wpQuiet_load_row L1.out under64 rfl (by rw [z1.out]; exact info64) rfl rfl ?_; simp only [List.set_cons_succ, List.set_cons_zero])
              | (refine wpQuiet_load_row L10.out under64 rfl (by rw [z5.out]; exact info64) rfl rfl ?_; simp only [List.set_cons_succ, List.set_cons_zero])
              | go_big_quiet_step ((first | (go_at_call 27; with_reducible exact ext_call (HC1.out _)) | (go_at_call 27; with_reducible exact ext_call (HA1.out _)) | (go_at_call 27; with_reducible exact ext_call (HC2.out _)) | (go_at_call 27; with_reducible exact ext_call (HA2.out _)) | (go_at_call 30; with_reducible exact ext_call (HTC.out _)) | (go_at_call 30; with_reducible exact ext_call (HT.out _)) | (go_at_call 21; with_reducible exact ext_call (WC.out _)))))
            refine wpQuiet_nil ?_
            rintro _ ⟨z, rfl⟩
            go_wp2_with fail
            go_meet
            exact ⟨rfl, z.h⟩
          · rw [hsame.out] at HC2
            generalize hasV a x s = hb at *
            clear hsame
            cases hb
            all_goals
              refine wp_region_ext mixed (by kernel_rfl) ?_
              repeat (first
                | go_big_quiet_skip
                | (refine wpQuiet_load_row L1.out under64 rfl (by rw [z1.out]; exact info64) rfl rfl ?_; simp only [List.set_cons_succ, List.set_cons_zero])
                | (refine wpQuiet_load_row L10.out under64 rfl (by rw [z5.out]; exact info64) rfl rfl ?_; simp only [List.set_cons_succ, List.set_cons_zero])
                | go_big_quiet_step ((first | (go_at_call 27; with_reducible exact ext_call (HC1.out _)) | (go_at_call 27; with_reducible exact ext_call (HA1.out _)) | (go_at_call 27; with_reducible exact ext_call (HC2.out _)) | (go_at_call 27; with_reducible exact ext_call (HA2.out _)) | (go_at_call 30; with_reducible exact ext_call (HTC.out _)) | (go_at_call 30; with_reducible exact ext_call (HT.out _)) | (go_at_call 21; with_reducible exact ext_call (WC.out _)))))
              refine wpQuiet_nil ?_
              rintro _ ⟨z, rfl⟩
              go_wp2_with fail
              go_meet
              exact ⟨rfl, z.h⟩
        · subst ex ey
          refine wp_region_ext mixed (by kernel_rfl) ?_
          repeat (first
            | go_big_quiet_skip
            | (refine wpQuiet_load_row L1.out under64 rfl (by rw [z1.out]; exact info64) rfl rfl ?_; simp only [List.set_cons_succ, List.set_cons_zero])
            | (refine wpQuiet_load_row L10.out under64 rfl (by rw [z5.out]; exact info64) rfl rfl ?_; simp only [List.set_cons_succ, List.set_cons_zero])
            | go_big_quiet_step ((first | (go_at_call 27; with_reducible exact ext_call (HC1.out _)) | (go_at_call 27; with_reducible exact ext_call (HA1.out _)) | (go_at_call 27; with_reducible exact ext_call (HC2.out _)) | (go_at_call 27; with_reducible exact ext_call (HA2.out _)) | (go_at_call 30; with_reducible exact ext_call (HTC.out _)) | (go_at_call 30; with_reducible exact ext_call (HT.out _)) | (go_at_call 21; with_reducible exact ext_call (WC.out _)))))
          refine wpQuiet_nil ?_
          rintro _ ⟨z, rfl⟩
          go_wp2_with fail
          go_meet
          exact ⟨rfl, z.h⟩
      case rest =>
        obtain ⟨rfl, hb6⟩ := hcut
        replace L1 := Lib.hid (L1.out.ext hb6)
        replace L2 := Lib.hid (L2.out.ext hb6)
        replace L7 := Lib.hid (L7.out.ext hb6)
        replace L8 := Lib.hid (L8.out.ext hb6)
        replace B1 := Lib.hid (ext_trans B1.out hb6)
        have HW := Lib.hid works12
        clear hb6 L3 L9 L10 HC HA HTC WC CSH z5 o5
        have CS : (Hid (withinV a b = true) ∧ Hid (lackV b a = 0)) ∨ (Hid (withinV a b = false) ∧ ¬ lackV b a = 0) := by
          by_cases h : withinV a b = true
          · exact .inl ⟨h, LW.out.1 h⟩
          · exact .inr ⟨by rw [Hid]; simpa using h, fun e => h (LW.out.2 e)⟩
        have TB : (totV j + totV m == totV a + totV b) = true := by rw [beq_iff_eq]; exact TS.out
        clear LW TS
        generalize totV a = ta at *
        generalize totV b = tb at *
        generalize totV j = tj at *
        generalize totV m = tm at *
        go_wp2_with fail
        rcases CS with ⟨c1, c2⟩ | ⟨c1, c2⟩
        all_goals
          rw [c1.out] at W1
        · rw [c2.out] at LK
          clear c1 c2
          refine wp_region_ext mixed (by kernel_rfl) ?_
          repeat (first
            | go_big_quiet_skip
            | (refine wpQuiet_load_row L1.out under64 rfl (by rw [z1.out]; exact info64) rfl rfl ?_; simp only [List.set_cons_succ, List.set_cons_zero])
            | (refine wpQuiet_load_row L2.out under64 rfl (by rw [z2.out]; exact info64) rfl rfl ?_; simp only [List.set_cons_succ, List.set_cons_zero])
            | (refine wpQuiet_load_row L7.out under64 rfl (by rw [z3.out]; exact info64) rfl rfl ?_; simp only [List.set_cons_succ, List.set_cons_zero])
            | (refine wpQuiet_load_row L8.out under64 rfl (by rw [z4.out]; exact info64) rfl rfl ?_; simp only [List.set_cons_succ, List.set_cons_zero])
            | go_big_quiet_step ((first | (go_at_call 21; with_reducible exact ext_call (W1.out _)) | (go_at_call 21; with_reducible exact ext_call (W2.out _)) | (go_at_call 21; with_reducible exact ext_call (W3.out _)) | (go_at_call 25; with_reducible exact ext_call (LK.out _)) | (go_at_call 30; with_reducible exact ext_call (HTJ.out _)) | (go_at_call 30; with_reducible exact ext_call (HTM.out _)) | (go_at_call 30; with_reducible exact ext_call (HT.out _)) | (go_at_call 30; with_reducible exact ext_call (HT2.out _)) | (go_at_call 13; with_reducible exact ext_call (HW.out _)))))
          refine wpQuiet_nil ?_
          rintro _ ⟨z, rfl⟩
          go_wp2
          go_ret
          exact ⟨rfl, B1.out.trans (z.h.mono B1.out.size)⟩
        · generalize lackV b a = la at *
          have c3 : (la == 0) = false := beq_eq_false_iff_ne.2 c2
          clear c1
          refine wp_region_ext mixed (by kernel_rfl) ?_
          repeat (first
            | go_big_quiet_skip
            | (refine wpQuiet_load_row L1.out under64 rfl (by rw [z1.out]; exact info64) rfl rfl ?_; simp only [List.set_cons_succ, List.set_cons_zero])
            | (refine wpQuiet_load_row L2.out under64 rfl (by rw [z2.out]; exact info64) rfl rfl ?_; simp only [List.set_cons_succ, List.set_cons_zero])
            | (refine wpQuiet_load_row L7.out under64 rfl (by rw [z3.out]; exact info64) rfl rfl ?_; simp only [List.set_cons_succ, List.set_cons_zero])
            | (refine wpQuiet_load_row L8.out under64 rfl (by rw [z4.out]; exact info64) rfl rfl ?_; simp only [List.set_cons_succ, List.set_cons_zero])
            | go_big_quiet_step ((first | (go_at_call 21; with_reducible exact ext_call (W1.out _)) | (go_at_call 21; with_reducible exact ext_call (W2.out _)) | (go_at_call 21; with_reducible exact ext_call (W3.out _)) | (go_at_call 25; with_reducible exact ext_call (LK.out _)) | (go_at_call 30; with_reducible exact ext_call (HTJ.out _)) | (go_at_call 30; with_reducible exact ext_call (HTM.out _)) | (go_at_call 30; with_reducible exact ext_call (HT.out _)) | (go_at_call 30; with_reducible exact ext_call (HT2.out _)) | (go_at_call 13; with_reducible exact ext_call (HW.out _)))))
          refine wpQuiet_nil ?_
          rintro _ ⟨z, rfl⟩
          go_wp2
          go_ret
          exact ⟨rfl, B1.out.trans (z.h.mono B1.out.size)⟩
end Go.Proofs.Ytceapefjdiphpaa
