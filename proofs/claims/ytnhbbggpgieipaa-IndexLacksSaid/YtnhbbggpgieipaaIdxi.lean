/- What any vector lacks is as the document says: walked. -/
import Derived.Test.YtnhbbggpgieipaaIdxh
namespace Go.Proofs.Ytnhbbggpgieipaa
open Go.RowKit

set_option maxRecDepth 100000 in
set_option maxHeartbeats 4000000 in
theorem indexLacks_walk (w : World) (l : List PatV) (A : Option Addr) (n c : Nat) (hm : n ≤ maxLen) (h : PatsAt w A n l) (v : List Int) (hv : VecOk v) :
    Calls Try.prog 3 #[.slice A n c, .agg (vecA v)] w (RetB w (.bool true)) := by
  have H := Lib.hid h
  have HV := Lib.hid hv
  have K1 : Hid (Blk (w.alloc (.cells (vecA v) 25)) w.heap.size 25 (vecA v)) := Blk.new _ _ _
  have B0 : Hid (Below w.heap.size w (w.alloc (.cells (vecA v) 25))) := below_new _ _
  clear h hv
  go_enter Try.func3, Try.ntmps3
  go_upto_region 1 with fail
  generalize (w.alloc (.cells (vecA v) 25)) = w2 at *
  have H := Lib.hid (H.out.ext B0.out)
  generalize w.heap.size = g0 at K1 ⊢
  have HF := Lib.hid (few20_any l w2 A n c 20 H.out hm)
  cases hf : fewsB l 20
  · rw [fewsN_false hf] at HF
    go_wp2_with fail
    refine HF.out.mono ?_
    rintro e w3 ⟨rfl, b3⟩
    have B3 := Lib.hid (B0.out.trans (b3.mono B0.out.size))
    clear b3 HF
    go_wp2_with fail
    refine (works31 _).mono ?_
    rintro e w4 ⟨rfl, b4⟩
    have B4 := Lib.hid (B3.out.trans (b4.mono B3.out.size))
    clear b4
    go_wp2
    go_ret
    exact ⟨rfl, B4.out⟩
  · rw [fewsN_true hf] at HF
    have HQ := Lib.hid (fews_at hf)
    have hn20 : n ≤ 100 := by have h1 := HQ.out.1; have h2 := H.out.len; omega
    go_wp2_with fail
    refine HF.out.mono ?_
    rintro e w3 ⟨rfl, b3⟩
    have B3 := Lib.hid (B0.out.trans (b3.mono B0.out.size))
    have H := Lib.hid (H.out.ext b3)
    have K1 := Lib.hid (K1.out.ext b3)
    clear b3 HF hf
    go_wp2_with fail
    refine (made31_any l w3 A n c H.out hn20 HQ.out.2).mono ?_
    rintro e w4 ⟨g, F, rfl, hI, hF, b4⟩
    have HI := Lib.hid hI
    have B4 := Lib.hid (B3.out.trans (b4.mono B3.out.size))
    have KB := Lib.hid (K1.out.ext b4)
    have RB := Lib.hid (blk_vec KB.out)
    have g0l : Hid (g0 < w4.heap.size) := KB.out.lt
    have hLn : (madeL l).length ≤ 100 := Nat.le_trans (madeL_len l) (by have := H.out.len; omega)
    clear hI hF b4 H K1 KB
    generalize madeL l = L at *
    have hL5 : Hid (L.length ≤ 100000) := by rw [Hid]; omega
    have hLm : Hid (L.length ≤ maxLen) := by rw [Hid]; unfold maxLen; omega
    have hLk : Hid ((lackP v L).length ≤ maxLen) := Nat.le_trans (List.length_filter_le _ _) hLm.out
    have HLK := Lib.hid (fun (v : List Int) (hv : VecOk v) (u : World) (hu : Below w4.heap.size w4 u) => lack31_any (HI.out.ext hu) hL5.out v hv)
    have HAL := Lib.hid (fun (u : World) (hu : Below w4.heap.size w4 u) => all31_any (HI.out.ext hu) hL5.out)
    have HVE := Lib.hid (fun (u : World) (hu : Below w4.heap.size w4 u) => vec31_any (HI.out.ext hu))
    have HLN := Lib.hid (fun (u : World) (hu : Below w4.heap.size w4 u) => HLK.out (vecL L) (vecL_ok L) u hu)
    have HL0 := Lib.hid (fun (u : World) (hu : Below w4.heap.size w4 u) => HLK.out vec0 vec0_ok u hu)
    rw [lackP_all HI.out.ok] at HLN
    rw [lackP_vec0] at HL0
    have hcL : ∀ args u, (callFunc 15 args).run Try.prog u = .ok (.enter 15 args) u := enters_of Try.func15 (by kernel_rfl) rfl
    have hcA : ∀ args u, (callFunc 17 args).run Try.prog u = .ok (.enter 17 args) u := enters_of Try.func17 (by kernel_rfl) rfl
    have hcV : ∀ args u, (callFunc 18 args).run Try.prog u = .ok (.enter 18 args) u := enters_of Try.func18 (by kernel_rfl) rfl
    have hcR : ∀ args u, (callFunc 16 args).run Try.prog u = .ok (.enter 16 args) u := enters_of Try.func16 (by kernel_rfl) rfl
    have hcP : ∀ args u, (callFunc 14 args).run Try.prog u = .ok (.enter 14 args) u := enters_of Try.func14 (by kernel_rfl) rfl
    have hcW : ∀ args u, (callFunc 12 args).run Try.prog u = .ok (.enter 12 args) u := enters_of Try.func12 (by kernel_rfl) rfl
    go_upto_region 4 with fail
    refine wp_region_held (S := fun w' => Below w4.heap.size w4 w') mixedS ?_
    change wpAnyH _ _ _ _ _ _ _ _ w4.drew
    have B5 : Hid (Below w4.heap.size w4 w4.drew) := (Below.refl _ _).drew
    generalize w4.drew = w5 at B5 ⊢
    simp only [List.size_toArray, List.length_cons, List.length_nil]
    refine takeV (i := 0) (d := 12) (v := .pointer (some ⟨g, 0, none⟩)) rfl (by kernel_rfl) (by kernel_rfl) (by kernel_rfl) (fun _ _ _ h => h) rfl (fun _ _ => exMove (v := .pointer (some ⟨g, 0, none⟩)) rfl) B5.out ?_
    simp only [Act.put, List.setIfInBounds_toArray, List.set_cons_zero, List.set_cons_succ]
    refine takeV (i := 1) (d := 13) (v := .agg (vecA v)) rfl (by kernel_rfl) (by kernel_rfl) (by kernel_rfl) (fun _ _ _ h => h) rfl (fun w' h => exMid rfl (rangeAt_below RB.out h g0l.out) under64 rfl (info64' HV.out)) B5.out ?_
    simp only [Act.put, List.setIfInBounds_toArray, List.set_cons_zero, List.set_cons_succ]
    refine takeV (i := 3) (d := 15) (v := .pointer (some ⟨g, 0, none⟩)) rfl (by kernel_rfl) (by kernel_rfl) (by kernel_rfl) (fun _ _ _ h => h) rfl (fun _ _ => exMove (v := .pointer (some ⟨g, 0, none⟩)) rfl) B5.out ?_
    simp only [Act.put, List.setIfInBounds_toArray, List.set_cons_zero, List.set_cons_succ]
    refine takeV (i := 5) (d := 17) (v := .agg (vecA v)) rfl (by kernel_rfl) (by kernel_rfl) (by kernel_rfl) (fun _ _ _ h => h) rfl (fun w' h => exMid rfl (rangeAt_below RB.out h g0l.out) under64 rfl (info64' HV.out)) B5.out ?_
    simp only [Act.put, List.setIfInBounds_toArray, List.set_cons_zero, List.set_cons_succ]
    refine wpAnyH_all (rs := [2]) (by kernel_rfl) (by simp) ?_
    intro i hi
    simp only [List.mem_cons, List.not_mem_nil, or_false] at hi
    subst hi
    refine wpOp_of rfl rfl (wp_called (args := #[.pointer (some ⟨g, 0, none⟩), .agg (vecA v)]) hcL (by simp only [List.map_toArray, List.map_cons, List.map_nil]; rfl) (HLK.out v HV.out w5 B5.out) ?_)
    rintro e w_1 ⟨s_2, rfl, O_3, h_4⟩
    obtain ⟨A_5, c_6, rfl, _⟩ := O_3.slice
    have P_7 := Lib.hid O_3.pats.at_
    refine ⟨_, rfl, ext_trans B5.out h_4, ?_⟩
    simp only [Act.put, List.setIfInBounds_toArray, List.set_cons_zero, List.set_cons_succ]
    have B_8 := Lib.hid (ext_trans B5.out h_4)
    clear B5
    clear O_3 h_4
    refine wpAnyH_all (rs := [4]) (by kernel_rfl) (by simp) ?_
    intro i hi
    simp only [List.mem_cons, List.not_mem_nil, or_false] at hi
    subst hi
    refine wpOp_of rfl rfl (wp_called (args := #[.pointer (some ⟨g, 0, none⟩)]) hcA (by simp only [List.map_toArray, List.map_cons, List.map_nil]; rfl) (HAL.out w_1 B_8.out) ?_)
    rintro e w_9 ⟨s_10, rfl, O_11, h_12⟩
    obtain ⟨A_13, c_14, rfl, _⟩ := O_11.slice
    have P_15 := Lib.hid O_11.pats.at_
    refine ⟨_, rfl, ext_trans B_8.out h_12, ?_⟩
    simp only [Act.put, List.setIfInBounds_toArray, List.set_cons_zero, List.set_cons_succ]
    have B_16 := Lib.hid (ext_trans B_8.out h_12)
    have F_17 := Lib.hid (P_7.out.ext h_12)
    clear B_8 P_7
    clear O_11 h_12
    refine wpAnyH_all (rs := [6]) (by kernel_rfl) (by simp) ?_
    intro i hi
    simp only [List.mem_cons, List.not_mem_nil, or_false] at hi
    subst hi
    refine wpOp_of rfl rfl (wp_called (args := #[.slice A_13 (L).length c_14, .agg (vecA v)]) hcR (by simp only [List.map_toArray, List.map_cons, List.map_nil]; rfl) (rlack31_any L v HV.out w_9 (fun k => k < w_9.heap.size) (fun _ h => h) _ _ _ P_15.out.in_ hL5.out) ?_)
    rintro e w_18 ⟨A_21, c_22, rfl, O_19, h_20⟩
    have P_23 := Lib.hid O_19.at_
    refine ⟨_, rfl, ext_trans B_16.out h_20, ?_⟩
    simp only [Act.put, List.setIfInBounds_toArray, List.set_cons_zero, List.set_cons_succ]
    have B_24 := Lib.hid (ext_trans B_16.out h_20)
    have F_25 := Lib.hid (F_17.out.ext h_20)
    have F_26 := Lib.hid (P_15.out.ext h_20)
    clear B_16 F_17 P_15
    clear O_19 h_20
    refine wpAnyH_all (rs := [7]) (by kernel_rfl) (by simp) ?_
    intro i hi
    simp only [List.mem_cons, List.not_mem_nil, or_false] at hi
    subst hi
    refine wpOp_of rfl rfl (wp_called (args := #[.slice A_5 (lackP v L).length c_6, .slice A_21 (lackP v L).length c_22]) hcP (by simp only [List.map_toArray, List.map_cons, List.map_nil]; rfl) (patches30_same (lackP v L) w_18 _ _ _ _ _ F_25.out P_23.out hLk.out) ?_)
    rintro e w_27 ⟨rfl, h_28⟩
    refine ⟨_, rfl, ext_trans B_24.out h_28, ?_⟩
    simp only [Act.put, List.setIfInBounds_toArray, List.set_cons_zero, List.set_cons_succ]
    have B_29 := Lib.hid (ext_trans B_24.out h_28)
    have F_30 := Lib.hid (F_25.out.ext h_28)
    have F_31 := Lib.hid (F_26.out.ext h_28)
    have F_32 := Lib.hid (P_23.out.ext h_28)
    clear B_24 F_25 F_26 P_23
    clear h_28
    refine takeV (i := 8) (d := 20) (v := .bool true) rfl (by kernel_rfl) (by kernel_rfl) (by kernel_rfl) (fun _ _ _ h => h) rfl (fun w' _ => exBin rfl rfl (by rfl) (by kernel_rfl)) B_29.out ?_
    simp only [Act.put, List.setIfInBounds_toArray, List.set_cons_zero, List.set_cons_succ]
    refine takeV (i := 9) (d := 21) (v := .bool true) rfl (by kernel_rfl) (by kernel_rfl) (by kernel_rfl) (fun _ _ _ h => h) rfl (fun _ _ => exMove (v := .bool true) rfl) B_29.out ?_
    simp only [Act.put, List.setIfInBounds_toArray, List.set_cons_zero, List.set_cons_succ]
    refine takeV (i := 10) (d := 22) (v := .pointer (some ⟨g, 0, none⟩)) rfl (by kernel_rfl) (by kernel_rfl) (by kernel_rfl) (fun _ _ _ h => h) rfl (fun _ _ => exMove (v := .pointer (some ⟨g, 0, none⟩)) rfl) B_29.out ?_
    simp only [Act.put, List.setIfInBounds_toArray, List.set_cons_zero, List.set_cons_succ]
    refine takeV (i := 11) (d := 23) (v := .pointer (some ⟨g, 0, none⟩)) rfl (by kernel_rfl) (by kernel_rfl) (by kernel_rfl) (fun _ _ _ h => h) rfl (fun _ _ => exMove (v := .pointer (some ⟨g, 0, none⟩)) rfl) B_29.out ?_
    simp only [Act.put, List.setIfInBounds_toArray, List.set_cons_zero, List.set_cons_succ]
    refine wpAnyH_all (rs := [12]) (by kernel_rfl) (by simp) ?_
    intro i hi
    simp only [List.mem_cons, List.not_mem_nil, or_false] at hi
    subst hi
    refine wpOp_of rfl rfl (wp_called (args := #[.pointer (some ⟨g, 0, none⟩)]) hcV (by simp only [List.map_toArray, List.map_cons, List.map_nil]; rfl) (HVE.out w_27 B_29.out) ?_)
    rintro e w_33 ⟨rfl, h_34⟩
    refine ⟨_, rfl, ext_trans B_29.out h_34, ?_⟩
    simp only [Act.put, List.setIfInBounds_toArray, List.set_cons_zero, List.set_cons_succ]
    have B_35 := Lib.hid (ext_trans B_29.out h_34)
    have F_36 := Lib.hid (F_30.out.ext h_34)
    have F_37 := Lib.hid (F_31.out.ext h_34)
    have F_38 := Lib.hid (F_32.out.ext h_34)
    clear B_29 F_30 F_31 F_32
    clear h_34
    refine wpAnyH_all (rs := [13]) (by kernel_rfl) (by simp) ?_
    intro i hi
    simp only [List.mem_cons, List.not_mem_nil, or_false] at hi
    subst hi
    refine wpOp_of rfl rfl (wp_called (args := #[.pointer (some ⟨g, 0, none⟩), .agg (vecA (vecL L))]) hcL (by simp only [List.map_toArray, List.map_cons, List.map_nil]; rfl) (HLN.out w_33 B_35.out) ?_)
    rintro e w_39 ⟨s_40, rfl, O_41, h_42⟩
    obtain ⟨A_43, c_44, rfl, _⟩ := O_41.slice
    have P_45 := Lib.hid O_41.pats.at_
    refine ⟨_, rfl, ext_trans B_35.out h_42, ?_⟩
    simp only [Act.put, List.setIfInBounds_toArray, List.set_cons_zero, List.set_cons_succ]
    have B_46 := Lib.hid (ext_trans B_35.out h_42)
    have F_47 := Lib.hid (F_36.out.ext h_42)
    have F_48 := Lib.hid (F_37.out.ext h_42)
    have F_49 := Lib.hid (F_38.out.ext h_42)
    clear B_35 F_36 F_37 F_38
    clear O_41 h_42
    refine takeV (i := 14) (d := 26) (v := .int .i64 (((([] : List PatV)).length : Nat) : Int)) rfl (by kernel_rfl) (by kernel_rfl) (by kernel_rfl) (fun _ _ _ h => h) rfl (fun _ _ => exLen Try.underlying22 rfl) B_46.out ?_
    simp only [Act.put, List.setIfInBounds_toArray, List.set_cons_zero, List.set_cons_succ]
    refine takeV (i := 15) (d := 27) (v := .bool true) rfl (by kernel_rfl) (by kernel_rfl) (by kernel_rfl) (fun _ _ _ h => h) rfl (fun w' _ => exBin rfl rfl (by rfl) (by kernel_rfl)) B_46.out ?_
    simp only [Act.put, List.setIfInBounds_toArray, List.set_cons_zero, List.set_cons_succ]
    refine takeV (i := 16) (d := 28) (v := .bool true) rfl (by kernel_rfl) (by kernel_rfl) (by kernel_rfl) (fun _ _ _ h => h) rfl (fun _ _ => exPickT (v := .bool true) rfl rfl) B_46.out ?_
    simp only [Act.put, List.setIfInBounds_toArray, List.set_cons_zero, List.set_cons_succ]
    refine takeV (i := 17) (d := 29) (v := .bool true) rfl (by kernel_rfl) (by kernel_rfl) (by kernel_rfl) (fun _ _ _ h => h) rfl (fun _ _ => exMove (v := .bool true) rfl) B_46.out ?_
    simp only [Act.put, List.setIfInBounds_toArray, List.set_cons_zero, List.set_cons_succ]
    refine takeV (i := 18) (d := 30) (v := .pointer (some ⟨g, 0, none⟩)) rfl (by kernel_rfl) (by kernel_rfl) (by kernel_rfl) (fun _ _ _ h => h) rfl (fun _ _ => exMove (v := .pointer (some ⟨g, 0, none⟩)) rfl) B_46.out ?_
    simp only [Act.put, List.setIfInBounds_toArray, List.set_cons_zero, List.set_cons_succ]
    refine takeV (i := 19) (d := 31) (v := .agg (vecA vec0)) rfl (by kernel_rfl) (by kernel_rfl) (by kernel_rfl) (fun _ _ _ h => h) rfl (fun w' _ => exBuild (vs := #[]) (by simp) (buildVec0 w')) B_46.out ?_
    simp only [Act.put, List.setIfInBounds_toArray, List.set_cons_zero, List.set_cons_succ]
    refine takeV (i := 21) (d := 33) (v := .pointer (some ⟨g, 0, none⟩)) rfl (by kernel_rfl) (by kernel_rfl) (by kernel_rfl) (fun _ _ _ h => h) rfl (fun _ _ => exMove (v := .pointer (some ⟨g, 0, none⟩)) rfl) B_46.out ?_
    simp only [Act.put, List.setIfInBounds_toArray, List.set_cons_zero, List.set_cons_succ]
    refine wpAnyH_all (rs := [20]) (by kernel_rfl) (by simp) ?_
    intro i hi
    simp only [List.mem_cons, List.not_mem_nil, or_false] at hi
    subst hi
    refine wpOp_of rfl rfl (wp_called (args := #[.pointer (some ⟨g, 0, none⟩), .agg (vecA vec0)]) hcL (by simp only [List.map_toArray, List.map_cons, List.map_nil]; rfl) (HL0.out w_39 B_46.out) ?_)
    rintro e w_50 ⟨s_51, rfl, O_52, h_53⟩
    obtain ⟨A_54, c_55, rfl, _⟩ := O_52.slice
    have P_56 := Lib.hid O_52.pats.at_
    refine ⟨_, rfl, ext_trans B_46.out h_53, ?_⟩
    simp only [Act.put, List.setIfInBounds_toArray, List.set_cons_zero, List.set_cons_succ]
    have B_57 := Lib.hid (ext_trans B_46.out h_53)
    have F_58 := Lib.hid (F_47.out.ext h_53)
    have F_59 := Lib.hid (F_48.out.ext h_53)
    have F_60 := Lib.hid (F_49.out.ext h_53)
    have F_61 := Lib.hid (P_45.out.ext h_53)
    clear B_46 F_47 F_48 F_49 P_45
    clear O_52 h_53
    refine wpAnyH_all (rs := [22]) (by kernel_rfl) (by simp) ?_
    intro i hi
    simp only [List.mem_cons, List.not_mem_nil, or_false] at hi
    subst hi
    refine wpOp_of rfl rfl (wp_called (args := #[.pointer (some ⟨g, 0, none⟩)]) hcA (by simp only [List.map_toArray, List.map_cons, List.map_nil]; rfl) (HAL.out w_50 B_57.out) ?_)
    rintro e w_62 ⟨s_63, rfl, O_64, h_65⟩
    obtain ⟨A_66, c_67, rfl, _⟩ := O_64.slice
    have P_68 := Lib.hid O_64.pats.at_
    refine ⟨_, rfl, ext_trans B_57.out h_65, ?_⟩
    simp only [Act.put, List.setIfInBounds_toArray, List.set_cons_zero, List.set_cons_succ]
    have B_69 := Lib.hid (ext_trans B_57.out h_65)
    have F_70 := Lib.hid (F_58.out.ext h_65)
    have F_71 := Lib.hid (F_59.out.ext h_65)
    have F_72 := Lib.hid (F_60.out.ext h_65)
    have F_73 := Lib.hid (F_61.out.ext h_65)
    have F_74 := Lib.hid (P_56.out.ext h_65)
    clear B_57 F_58 F_59 F_60 F_61 P_56
    clear O_64 h_65
    refine wpAnyH_all (rs := [23]) (by kernel_rfl) (by simp) ?_
    intro i hi
    simp only [List.mem_cons, List.not_mem_nil, or_false] at hi
    subst hi
    refine wpOp_of rfl rfl (wp_called (args := #[.slice A_54 (L).length c_55, .slice A_66 (L).length c_67]) hcP (by simp only [List.map_toArray, List.map_cons, List.map_nil]; rfl) (patches30_same (L) w_62 _ _ _ _ _ F_74.out P_68.out hLm.out) ?_)
    rintro e w_75 ⟨rfl, h_76⟩
    refine ⟨_, rfl, ext_trans B_69.out h_76, ?_⟩
    simp only [Act.put, List.setIfInBounds_toArray, List.set_cons_zero, List.set_cons_succ]
    have B_77 := Lib.hid (ext_trans B_69.out h_76)
    have F_78 := Lib.hid (F_70.out.ext h_76)
    have F_79 := Lib.hid (F_71.out.ext h_76)
    have F_80 := Lib.hid (F_72.out.ext h_76)
    have F_81 := Lib.hid (F_73.out.ext h_76)
    have F_82 := Lib.hid (F_74.out.ext h_76)
    have F_83 := Lib.hid (P_68.out.ext h_76)
    clear B_69 F_70 F_71 F_72 F_73 F_74 P_68
    clear h_76
    refine takeV (i := 24) (d := 36) (v := .bool true) rfl (by kernel_rfl) (by kernel_rfl) (by kernel_rfl) (fun _ _ _ h => h) rfl (fun w' _ => exBin rfl rfl (by rfl) (by kernel_rfl)) B_77.out ?_
    simp only [Act.put, List.setIfInBounds_toArray, List.set_cons_zero, List.set_cons_succ]
    refine takeV (i := 25) (d := 37) (v := .bool true) rfl (by kernel_rfl) (by kernel_rfl) (by kernel_rfl) (fun _ _ _ h => h) rfl (fun _ _ => exPickT (v := .bool true) rfl rfl) B_77.out ?_
    simp only [Act.put, List.setIfInBounds_toArray, List.set_cons_zero, List.set_cons_succ]
    refine takeV (i := 26) (d := 38) (v := .bool true) rfl (by kernel_rfl) (by kernel_rfl) (by kernel_rfl) (fun _ _ _ h => h) rfl (fun _ _ => exMove (v := .bool true) rfl) B_77.out ?_
    simp only [Act.put, List.setIfInBounds_toArray, List.set_cons_zero, List.set_cons_succ]
    refine wpAnyH_all (rs := [27]) (by kernel_rfl) (by simp) ?_
    intro i hi
    simp only [List.mem_cons, List.not_mem_nil, or_false] at hi
    subst hi
    refine wpOp_of rfl rfl (wp_called (args := #[]) hcW (by simp) (works31 w_75) ?_)
    rintro e w_84 ⟨rfl, h_85⟩
    refine ⟨_, rfl, ext_trans B_77.out h_85, ?_⟩
    simp only [Act.put, List.setIfInBounds_toArray, List.set_cons_zero, List.set_cons_succ]
    have B_86 := Lib.hid (ext_trans B_77.out h_85)
    have F_87 := Lib.hid (F_78.out.ext h_85)
    have F_88 := Lib.hid (F_79.out.ext h_85)
    have F_89 := Lib.hid (F_80.out.ext h_85)
    have F_90 := Lib.hid (F_81.out.ext h_85)
    have F_91 := Lib.hid (F_82.out.ext h_85)
    have F_92 := Lib.hid (F_83.out.ext h_85)
    clear B_77 F_78 F_79 F_80 F_81 F_82 F_83
    clear h_85
    refine takeV (i := 28) (d := 40) (v := .bool true) rfl (by kernel_rfl) (by kernel_rfl) (by kernel_rfl) (fun _ _ _ h => h) rfl (fun _ _ => exPickT (v := .bool true) rfl rfl) B_86.out ?_
    simp only [Act.put, List.setIfInBounds_toArray, List.set_cons_zero, List.set_cons_succ]
    refine takeV (i := 29) (d := 4) (v := .bool true) rfl (by kernel_rfl) (by kernel_rfl) (by kernel_rfl) (fun _ _ _ h => h) rfl (fun _ _ => exAssign (v := .bool true) rfl) B_86.out ?_
    simp only [Act.put, List.setIfInBounds_toArray, List.set_cons_zero, List.set_cons_succ]
    refine wpAnyH_done (by kernel_rfl) ?_ _
    have BF := B_86
    go_wp2
    go_ret
    exact ⟨rfl, B4.out.trans (BF.out.mono B4.out.size)⟩
end Go.Proofs.Ytnhbbggpgieipaa
