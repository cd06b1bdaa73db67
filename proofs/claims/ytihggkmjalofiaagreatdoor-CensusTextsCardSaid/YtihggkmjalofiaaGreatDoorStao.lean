/- slices.SortStableFunc at a census' rows: merging by halves walked. -/
import Derived.Test.YtihggkmjalofiaaGreatDoorStan
namespace Go.Proofs.YtihggkmjalofiaaGreatDoor
open Go.RowKit Go.Sort Go.Lib Go.Shelf

set_option maxRecDepth 100000 in
set_option maxHeartbeats 16000000 in
/-- merging by halves -/
theorem symC_any (k : RowR → Int) (cf : RowR → RowR → Int) (hcf : LessIs cf k) (g : Nat) (cb : Array Value) (blk off cap : Nat) (d0 : Array RowR) (w0 : World) (he : ∀ args w, (callFunc g args).run Tryz.prog w = .ok (.enter g args) w) (hC : CmpLays Tryz.prog g cb encR 9 cf blk off d0.size w0) (hR : RowK encR 9 w0 blk off d0) (hsz : d0.size ≤ 1000) (N : Nat) (ih0 : ∀ (a m b : Nat) (d : Array RowR) (w : World), b - a < N → a < m → m < b → b ≤ d.size → d.size = d0.size → SrF k (atA d) a m → SrF k (atA d) m b → SWK encR 9 w0 blk off d w → Calls Tryz.prog 291 #[.slice (some ⟨blk, off, none⟩) d.size cap, .int .i64 (a : Nat), .int .i64 (m : Nat), .int .i64 (b : Nat), .func (.func g) #[] cb] w fun e w' => e = .returned (.tuple #[]) ∧ ∃ d' : Array RowR, d'.size = d.size ∧ (FiF k (atA d) (atA d') a b ∧ SrF k (atA d') a b) ∧ SWK encR 9 w0 blk off d' w') (a m b : Nat) (d : Array RowR) (w : World) (_ham : a < m) (_hmb : m < b) (hb : b ≤ d.size) (hds : d.size = d0.size) (hA : SrF k (atA d) a m) (hB : SrF k (atA d) m b) (hS : SWK encR 9 w0 blk off d w) (hN : b - a < N + 1) (h1 : ¬ m = a + 1) (h2 : ¬ b = m + 1) :
  Calls Tryz.prog 291 #[.slice (some ⟨blk, off, none⟩) d.size cap, .int .i64 (a : Nat), .int .i64 (m : Nat), .int .i64 (b : Nat), .func (.func g) #[] cb] w fun e w' => e = .returned (.tuple #[]) ∧ ∃ d' : Array RowR, d'.size = d.size ∧ (FiF k (atA d) (atA d') a b ∧ SrF k (atA d') a b) ∧ SWK encR 9 w0 blk off d' w' := by
 have HE := Lib.hid he
 have HC := Lib.hid hC
 have R := Lib.hid hR
 have CF := Lib.hid hcf
 have mixed : Tryz.prog.follows .mixedOrders = true := by kernel_rfl
 have A := Lib.hid hA
 have B := Lib.hid hB
 have S0 := Lib.hid hS
 have HD := Lib.hid hds
 have hsz2 : d.size ≤ 1000 := by omega
 have hsd : d0.size = d.size := HD.out.symm
 clear he hC hR hcf hA hB hS hds
 have IH := Lib.hid ih0
 clear ih0
 obtain ⟨p1, hp1⟩ : ∃ x, x = m - a := ⟨_, rfl⟩
 obtain ⟨p2, hp2⟩ : ∃ x, x = b - m := ⟨_, rfl⟩
 have HP1 := Lib.hid hp1
 have HP2 := Lib.hid hp2
 clear hp1 hp2
 go_enter Tryz.func291, Tryz.ntmps291
 obtain ⟨s0, hs0⟩ : ∃ x, x = a + b := ⟨_, rfl⟩
 obtain ⟨mid, hmid⟩ : ∃ mid, mid = s0 / 2 := ⟨_, rfl⟩
 obtain ⟨nn, hnn⟩ : ∃ x, x = mid + m := ⟨_, rfl⟩
 obtain ⟨pp, hpp⟩ : ∃ x, x = nn - 1 := ⟨_, rfl⟩
 have hmm : a < mid ∧ mid < b ∧ s0 ≤ 2000 ∧ nn ≤ 2000 := by omega
 have FN : mid + m ≤ nn ∧ nn ≤ mid + m ∧ pp + 1 ≤ nn ∧ nn ≤ pp + 1 := by omega
 have F1 : 2 ≤ p1 ∧ 2 ≤ p2 := by have := HP1.out; have := HP2.out; omega
 have hm2 : 2 * mid ≤ a + b ∧ a + b ≤ 2 * mid + 1 := by omega
 have HS0 := Lib.hid hs0
 have HMID := Lib.hid hmid
 have HNN := Lib.hid hnn
 have HPP := Lib.hid hpp
 clear hs0 hmid hnn hpp
 have hz0 : ¬ ((m : Nat) : Int) - ((a : Nat) : Int) = 1 := by omega
 have hz1 : ¬ ((b : Nat) : Int) - ((m : Nat) : Int) = 1 := by omega
 go_upto_region 27 with fail
 rw [show (((a : Nat) : Int) + ((b : Nat) : Int)) / 2 = ((mid : Nat) : Int) by have := And.intro HS0.out HMID.out; omega]
 rw [show ((mid : Nat) : Int) + ((m : Nat) : Int) = ((nn : Nat) : Int) by have := HNN.out; omega]
 go_upto_if 140 with fail
 go_cut [20, 21] (fun sv rv wx => ∃ s r : Nat, sv = .int .i64 ((s : Nat) : Int) ∧ rv = .int .i64 ((r : Nat) : Int) ∧ a ≤ s ∧ s ≤ r ∧ r ≤ m ∧ r ≤ mid ∧ mid + m ≤ s + b ∧ (r = mid ∨ r = m) ∧ (s = a ∨ s + b = mid + m) ∧ wx = w)
 case first =>
  by_cases h3 : mid < m
  ·obtain ⟨s1, hs1⟩ : ∃ x, x = nn - b := ⟨_, rfl⟩
   have F4 : s1 + b ≤ nn ∧ nn ≤ s1 + b := by omega
   have HS1 := Lib.hid hs1
   clear hs1
   have hz0 : ((mid : Nat) : Int) < ((m : Nat) : Int) := by omega
   go_wp2_with fail
   rw [show ((nn : Nat) : Int) - ((b : Nat) : Int) = ((s1 : Nat) : Int) by have := HS1.out; omega]
   go_meet
   exact ⟨s1, mid, rfl, rfl, by omega, by omega, by omega, by omega, by omega, .inl rfl, .inr (by omega), rfl⟩
  ·have hz0 : ¬ ((mid : Nat) : Int) < ((m : Nat) : Int) := by omega
   go_wp2_with fail
   go_meet
   exact ⟨a, m, rfl, rfl, by omega, by omega, by omega, by omega, by omega, .inr rfl, .inl rfl, rfl⟩
 case rest =>
  obtain ⟨s, r, rfl, rfl, k1, k2, k3, k4, k5, k6, k7, rfl⟩ := hcut
  go_upto_region 33 with fail
  rw [show ((nn : Nat) : Int) - 1 = ((pp : Nat) : Int) by have := HPP.out; omega]
  have KK := Lib.hid (And.intro k6 k7)
  clear k6 k7
  go_loopw [20, 21] (fun iv jv wr => ∃ i j : Nat, iv = .int .i64 ((i : Nat) : Int) ∧ jv = .int .i64 ((j : Nat) : Int) ∧ s ≤ i ∧ i ≤ j ∧ j ≤ r ∧ Hid (∀ x, s ≤ x → x < i → k (atA d (pp - x)) ≤ k (atA d x)) ∧ Hid (∀ x, j ≤ x → x < r → k (atA d x) < k (atA d (pp - x))) ∧ Hid (SWK encR 9 w0 blk off d wr)) (fun iv jv _ => (intOf jv).toNat - (intOf iv).toNat)
  case atStart => exact ⟨s, r, rfl, rfl, Nat.le_refl _, by omega, Nat.le_refl _, fun x h3 h4 => by omega, fun x h3 h4 => by omega, S0.out⟩
  case round =>
   clear S0
   obtain ⟨i, j, rfl, rfl, hmi, hij, hjb, LO, HI, S1⟩ := hrel
   by_cases hlt : i < j
   ·obtain ⟨s', hs'⟩ : ∃ x, x = i + j := ⟨_, rfl⟩
    obtain ⟨h, hh⟩ : ∃ h, h = s' / 2 := ⟨_, rfl⟩
    obtain ⟨hn, hhn⟩ : ∃ x, x = h + 1 := ⟨_, rfl⟩
    have hih : i ≤ h ∧ h < j ∧ s' ≤ 2000 ∧ h + 1 ≤ hn ∧ hn ≤ h + 1 := by omega
    have HH := Lib.hid hh
    have HSS := Lib.hid hs'
    have HHN := Lib.hid hhn
    clear hh hs' hhn
    have hz0 : ((i : Nat) : Int) < ((j : Nat) : Int) := by omega
    go_upto_region 35 with fail
    rw [show (((i : Nat) : Int) + ((j : Nat) : Int)) / 2 = ((h : Nat) : Int) by have := And.intro HSS.out HH.out; omega]
    by_cases hc : k (atA d h) < k (atA d (pp - h))
    ·have hv : Hid (decide (cf d[pp - h]! d[h]! < 0) = true) := less_yes CF.out hc
     have HI2 : Hid (∀ x, h ≤ x → x < r → k (atA d x) < k (atA d (pp - x))) := sym_hi A.out B.out (by omega) k3 (by omega) (by omega) hc
     clear hc
     refine wp_region_Z (S := fun w' => SWK encR 9 w0 blk off d w') (Z := []) mixed ?_
     have SZ : Hid (SWK encR 9 w0 blk off d wr.drew) := S1.out.drew
     generalize wr.drew = wz at SZ ⊢
     clear S1
     simp only [List.size_toArray, List.length_cons, List.length_nil]
     refine zLight (i := 0) rfl (by kernel_rfl) (by kernel_rfl) (by kernel_rfl) (by kernel_rfl) (fun _ _ _ h => h) rfl (fun _ => exMove (v := .func (.func g) #[] cb) rfl) (fun _ => SZ.out) ?_
     simp only [Act.put, List.setIfInBounds_toArray, List.set_cons_zero, List.set_cons_succ]
     refine zLight (i := 1) rfl (by kernel_rfl) (by kernel_rfl) (by kernel_rfl) (by kernel_rfl) (fun _ _ _ h => h) rfl (fun _ => exMove (v := .slice (some ⟨blk, off, none⟩) d.size cap) rfl) (fun _ => SZ.out) ?_
     simp only [Act.put, List.setIfInBounds_toArray, List.set_cons_zero, List.set_cons_succ]
     refine zLight (i := 2) rfl (by kernel_rfl) (by kernel_rfl) (by kernel_rfl) (by kernel_rfl) (fun _ _ _ h => h) rfl (fun _ => exMove (v := .int .i64 ((pp : Nat) : Int)) rfl) (fun _ => SZ.out) ?_
     simp only [Act.put, List.setIfInBounds_toArray, List.set_cons_zero, List.set_cons_succ]
     refine zLight (i := 3) rfl (by kernel_rfl) (by kernel_rfl) (by kernel_rfl) (by kernel_rfl) (fun _ _ _ h => h) rfl (fun _ => exMove (v := .int .i64 ((h : Nat) : Int)) rfl) (fun _ => SZ.out) ?_
     simp only [Act.put, List.setIfInBounds_toArray, List.set_cons_zero, List.set_cons_succ]
     refine zLight (i := 4) rfl (by kernel_rfl) (by kernel_rfl) (by kernel_rfl) (by kernel_rfl) (fun _ _ _ h => h) rfl (fun w' => exBin (v := .int .i64 ((pp - h : Nat) : Int)) rfl rfl (by rfl) (nsub54 (pp) (h) w' (by omega) (by omega))) (fun _ => SZ.out) ?_
     simp only [Act.put, List.setIfInBounds_toArray, List.set_cons_zero, List.set_cons_succ]
     refine zLight (i := 5) rfl (by kernel_rfl) (by kernel_rfl) (by kernel_rfl) (by kernel_rfl) (fun _ _ _ h => h) rfl (fun w' => exIndex rfl rfl (indexRowS blk off d.size cap (pp - h) (by omega) w')) (fun _ => SZ.out) ?_
     simp only [Act.put, List.setIfInBounds_toArray, List.set_cons_zero, List.set_cons_succ]
     refine zV (i := 6) rfl (by kernel_rfl) (by kernel_rfl) (by kernel_rfl) (by kernel_rfl) (by kernel_rfl) (fun _ _ _ h => h) rfl (fun w' hX => exMid rfl (swk_range hX R.out (by omega) (i := pp - h) (by omega)) underRow rfl infoRow) SZ.out ?_
     simp only [Act.put, List.setIfInBounds_toArray, List.set_cons_zero, List.set_cons_succ]
     refine zLight (i := 7) rfl (by kernel_rfl) (by kernel_rfl) (by kernel_rfl) (by kernel_rfl) (fun _ _ _ h => h) rfl (fun _ => exMove (v := .slice (some ⟨blk, off, none⟩) d.size cap) rfl) (fun _ => SZ.out) ?_
     simp only [Act.put, List.setIfInBounds_toArray, List.set_cons_zero, List.set_cons_succ]
     refine zLight (i := 8) rfl (by kernel_rfl) (by kernel_rfl) (by kernel_rfl) (by kernel_rfl) (fun _ _ _ h => h) rfl (fun _ => exMove (v := .int .i64 ((h : Nat) : Int)) rfl) (fun _ => SZ.out) ?_
     simp only [Act.put, List.setIfInBounds_toArray, List.set_cons_zero, List.set_cons_succ]
     refine zLight (i := 9) rfl (by kernel_rfl) (by kernel_rfl) (by kernel_rfl) (by kernel_rfl) (fun _ _ _ h => h) rfl (fun w' => exIndex rfl rfl (indexRowS blk off d.size cap (h) (by omega) w')) (fun _ => SZ.out) ?_
     simp only [Act.put, List.setIfInBounds_toArray, List.set_cons_zero, List.set_cons_succ]
     refine zV (i := 10) rfl (by kernel_rfl) (by kernel_rfl) (by kernel_rfl) (by kernel_rfl) (by kernel_rfl) (fun _ _ _ h => h) rfl (fun w' hX => exMid rfl (swk_range hX R.out (by omega) (i := h) (by omega)) underRow rfl infoRow) SZ.out ?_
     simp only [Act.put, List.setIfInBounds_toArray, List.set_cons_zero, List.set_cons_succ]
     refine wpAnyZ_all (rs := [11]) (by kernel_rfl) (by simp) ?_
     intro i hi
     simp only [List.mem_cons, List.not_mem_nil, or_false] at hi
     subst hi
     refine wpOp_of rfl rfl (wp_calledW54 HE.out rfl rfl rfl (SZ.out.cmp HC.out (by omega) d[pp - h]! d[h]! 0 #[]) ?_)
     rintro e w2 ⟨rfl, SX⟩
     have SY : Hid (SWK encR 9 w0 blk off d w2) := swk_grew SZ.out SX
     clear SX SZ
     refine ⟨_, rfl, fun _ => SY.out, ?_⟩
     simp only [Act.put, List.setIfInBounds_toArray, List.set_cons_zero, List.set_cons_succ]
     refine zLight (i := 12) rfl (by kernel_rfl) (by kernel_rfl) (by kernel_rfl) (by kernel_rfl) (fun _ _ _ h => h) rfl (fun w' => exBin (v := .bool true) rfl rfl (by rfl) (lss54 _ true hv.out w')) (fun _ => SY.out) ?_
     simp only [Act.put, List.setIfInBounds_toArray, List.set_cons_zero, List.set_cons_succ]
     refine zLight (i := 13) rfl (by kernel_rfl) (by kernel_rfl) (by kernel_rfl) (by kernel_rfl) (fun _ _ _ h => h) rfl (fun _ => exNot (b := true) rfl) (fun _ => SY.out) ?_
     simp only [Act.put, List.setIfInBounds_toArray, List.set_cons_zero, List.set_cons_succ]
     refine wpAnyZ_done (by kernel_rfl) ?_ _
     go_wp2_with fail
     go_roundw
     case rel => exact ⟨i, h, rfl, rfl, hmi, by omega, by omega, LO.out, HI2.out, SY.out⟩
     case measure => simp [intOf]; omega
    ·have hv : Hid (decide (cf d[pp - h]! d[h]! < 0) = false) := less_no CF.out hc
     have LO2 : Hid (∀ x, s ≤ x → x < h + 1 → k (atA d (pp - x)) ≤ k (atA d x)) := sym_lo A.out B.out (by omega) (by omega) (by omega) (by omega) hc
     clear hc
     refine wp_region_Z (S := fun w' => SWK encR 9 w0 blk off d w') (Z := []) mixed ?_
     have SZ : Hid (SWK encR 9 w0 blk off d wr.drew) := S1.out.drew
     generalize wr.drew = wz at SZ ⊢
     clear S1
     simp only [List.size_toArray, List.length_cons, List.length_nil]
     refine zLight (i := 0) rfl (by kernel_rfl) (by kernel_rfl) (by kernel_rfl) (by kernel_rfl) (fun _ _ _ h => h) rfl (fun _ => exMove (v := .func (.func g) #[] cb) rfl) (fun _ => SZ.out) ?_
     simp only [Act.put, List.setIfInBounds_toArray, List.set_cons_zero, List.set_cons_succ]
     refine zLight (i := 1) rfl (by kernel_rfl) (by kernel_rfl) (by kernel_rfl) (by kernel_rfl) (fun _ _ _ h => h) rfl (fun _ => exMove (v := .slice (some ⟨blk, off, none⟩) d.size cap) rfl) (fun _ => SZ.out) ?_
     simp only [Act.put, List.setIfInBounds_toArray, List.set_cons_zero, List.set_cons_succ]
     refine zLight (i := 2) rfl (by kernel_rfl) (by kernel_rfl) (by kernel_rfl) (by kernel_rfl) (fun _ _ _ h => h) rfl (fun _ => exMove (v := .int .i64 ((pp : Nat) : Int)) rfl) (fun _ => SZ.out) ?_
     simp only [Act.put, List.setIfInBounds_toArray, List.set_cons_zero, List.set_cons_succ]
     refine zLight (i := 3) rfl (by kernel_rfl) (by kernel_rfl) (by kernel_rfl) (by kernel_rfl) (fun _ _ _ h => h) rfl (fun _ => exMove (v := .int .i64 ((h : Nat) : Int)) rfl) (fun _ => SZ.out) ?_
     simp only [Act.put, List.setIfInBounds_toArray, List.set_cons_zero, List.set_cons_succ]
     refine zLight (i := 4) rfl (by kernel_rfl) (by kernel_rfl) (by kernel_rfl) (by kernel_rfl) (fun _ _ _ h => h) rfl (fun w' => exBin (v := .int .i64 ((pp - h : Nat) : Int)) rfl rfl (by rfl) (nsub54 (pp) (h) w' (by omega) (by omega))) (fun _ => SZ.out) ?_
     simp only [Act.put, List.setIfInBounds_toArray, List.set_cons_zero, List.set_cons_succ]
     refine zLight (i := 5) rfl (by kernel_rfl) (by kernel_rfl) (by kernel_rfl) (by kernel_rfl) (fun _ _ _ h => h) rfl (fun w' => exIndex rfl rfl (indexRowS blk off d.size cap (pp - h) (by omega) w')) (fun _ => SZ.out) ?_
     simp only [Act.put, List.setIfInBounds_toArray, List.set_cons_zero, List.set_cons_succ]
     refine zV (i := 6) rfl (by kernel_rfl) (by kernel_rfl) (by kernel_rfl) (by kernel_rfl) (by kernel_rfl) (fun _ _ _ h => h) rfl (fun w' hX => exMid rfl (swk_range hX R.out (by omega) (i := pp - h) (by omega)) underRow rfl infoRow) SZ.out ?_
     simp only [Act.put, List.setIfInBounds_toArray, List.set_cons_zero, List.set_cons_succ]
     refine zLight (i := 7) rfl (by kernel_rfl) (by kernel_rfl) (by kernel_rfl) (by kernel_rfl) (fun _ _ _ h => h) rfl (fun _ => exMove (v := .slice (some ⟨blk, off, none⟩) d.size cap) rfl) (fun _ => SZ.out) ?_
     simp only [Act.put, List.setIfInBounds_toArray, List.set_cons_zero, List.set_cons_succ]
     refine zLight (i := 8) rfl (by kernel_rfl) (by kernel_rfl) (by kernel_rfl) (by kernel_rfl) (fun _ _ _ h => h) rfl (fun _ => exMove (v := .int .i64 ((h : Nat) : Int)) rfl) (fun _ => SZ.out) ?_
     simp only [Act.put, List.setIfInBounds_toArray, List.set_cons_zero, List.set_cons_succ]
     refine zLight (i := 9) rfl (by kernel_rfl) (by kernel_rfl) (by kernel_rfl) (by kernel_rfl) (fun _ _ _ h => h) rfl (fun w' => exIndex rfl rfl (indexRowS blk off d.size cap (h) (by omega) w')) (fun _ => SZ.out) ?_
     simp only [Act.put, List.setIfInBounds_toArray, List.set_cons_zero, List.set_cons_succ]
     refine zV (i := 10) rfl (by kernel_rfl) (by kernel_rfl) (by kernel_rfl) (by kernel_rfl) (by kernel_rfl) (fun _ _ _ h => h) rfl (fun w' hX => exMid rfl (swk_range hX R.out (by omega) (i := h) (by omega)) underRow rfl infoRow) SZ.out ?_
     simp only [Act.put, List.setIfInBounds_toArray, List.set_cons_zero, List.set_cons_succ]
     refine wpAnyZ_all (rs := [11]) (by kernel_rfl) (by simp) ?_
     intro i hi
     simp only [List.mem_cons, List.not_mem_nil, or_false] at hi
     subst hi
     refine wpOp_of rfl rfl (wp_calledW54 HE.out rfl rfl rfl (SZ.out.cmp HC.out (by omega) d[pp - h]! d[h]! 0 #[]) ?_)
     rintro e w2 ⟨rfl, SX⟩
     have SY : Hid (SWK encR 9 w0 blk off d w2) := swk_grew SZ.out SX
     clear SX SZ
     refine ⟨_, rfl, fun _ => SY.out, ?_⟩
     simp only [Act.put, List.setIfInBounds_toArray, List.set_cons_zero, List.set_cons_succ]
     refine zLight (i := 12) rfl (by kernel_rfl) (by kernel_rfl) (by kernel_rfl) (by kernel_rfl) (fun _ _ _ h => h) rfl (fun w' => exBin (v := .bool false) rfl rfl (by rfl) (lss54 _ false hv.out w')) (fun _ => SY.out) ?_
     simp only [Act.put, List.setIfInBounds_toArray, List.set_cons_zero, List.set_cons_succ]
     refine zLight (i := 13) rfl (by kernel_rfl) (by kernel_rfl) (by kernel_rfl) (by kernel_rfl) (fun _ _ _ h => h) rfl (fun _ => exNot (b := false) rfl) (fun _ => SY.out) ?_
     simp only [Act.put, List.setIfInBounds_toArray, List.set_cons_zero, List.set_cons_succ]
     refine wpAnyZ_done (by kernel_rfl) ?_ _
     go_wp2_with fail
     rw [show ((h : Nat) : Int) + 1 = ((hn : Nat) : Int) by have := HHN.out; omega]
     go_roundw
     case rel => exact ⟨hn, j, rfl, rfl, by omega, by omega, hjb, by rw [HHN.out]; exact LO2.out, HI.out, SY.out⟩
     case measure => simp [intOf]; omega
   ·obtain rfl : i = j := by omega
    obtain ⟨q, hq⟩ : ∃ q, q = nn - i := ⟨_, rfl⟩
    have HQ := Lib.hid hq
    have HLT : Hid (i = m ∨ q = m ∨ k (atA d i) < k (atA d (q - 1))) := by
     rcases Nat.lt_or_ge i r with h4 | h4
     ·have := HI.out i (Nat.le_refl _) h4
      rw [show pp - i = q - 1 by omega] at this
      exact .inr (.inr this)
     ·rcases KK.out.1 with h5 | h5
      ·exact .inr (.inl (by omega))
      ·exact .inl (by omega)
    have HGE : Hid (i = a ∨ q = b ∨ k (atA d q) ≤ k (atA d (i - 1))) := by
     rcases Nat.lt_or_ge s i with h4 | h4
     ·have := LO.out (i - 1) (by omega) (by omega)
      rw [show pp - (i - 1) = q by omega] at this
      exact .inr (.inr this)
     ·rcases KK.out.2 with h5 | h5
      ·exact .inl (by omega)
      ·exact .inr (.inl (by omega))
    have hq2 : m ≤ q ∧ q ≤ b ∧ i + (q - m) = mid ∧ i + q = mid + m := by omega
    clear hq
    have hz0 : ¬ ((i : Nat) : Int) < ((i : Nat) : Int) := by omega
    go_upto_region 38 with fail
    go_cut [24] (fun qv wx => qv = .int .i64 ((q : Nat) : Int) ∧ wx = wr)
    case first =>
     go_wp2_with fail
     rw [show ((nn : Nat) : Int) - ((i : Nat) : Int) = ((q : Nat) : Int) by have := HQ.out; omega]
     go_meet
     exact ⟨rfl, rfl⟩
    case rest =>
    obtain ⟨rfl, rfl⟩ := hcut
    rename_i hK
    refine hK _ _ ?_
    refine symTail_any k g cb blk off cap d0 w0 R.out N IH.out a m b d _ _ham _hmb hb hsz2 HD.out A.out B.out S1.out hN mid i q ⟨hmm.1, hmm.2.1⟩ ⟨by omega, by omega, by omega⟩ ⟨hq2.1, hq2.2.1, hq2.2.2.1⟩ HLT.out HGE.out _ ?_ _ _ _ _ _ _ _ _ _ _ _ _ _ _ _ _ _ _ _ _ _ _ _ _ _ _ _ _ _ _ _ _ _ _ _ _ _ _ _ _ _ _ _ _ _ _ _ _ _ _ _ _ _ _ _ _ _ _ _ _ _ _ _ _ _ _ _ _ _ _ _ _ _ _ _ _ _ _ _ _ _ _ _ _ _ _ _ _ _ _ _ _ _ _ _ _ _ _ _ _ _ _ _ _ _ _ _ _ _ _ _ _ _ _ _ _ _ _ _ _ _ _ _ _ _ _ _ _ _ _ _ _ _ _ _ _ _ _ _ _ _ _ _ _ _ _ _ _ _ _ _ _ _ _ _ _ _ _ _ _ _ _ _ _ _ _ _ _ _ _ _ _ _ _ _ _ _ _ _ _ _ _ _ _ _ _ _ _ _ _ _ _ _ _ _ _ _ _ _ _ _ _ _ _ _ _ _ _ _ _ _ _
    rintro tm w' ⟨d', h1, h2, h3⟩
    go_end0
    exact ⟨rfl, d', h1, h2, h3⟩
theorem sym54_any (k : RowR → Int) (cf : RowR → RowR → Int) (hcf : LessIs cf k) (g : Nat) (cb : Array Value) (blk off cap : Nat) (d0 : Array RowR) (w0 : World) (he : ∀ args w, (callFunc g args).run Tryz.prog w = .ok (.enter g args) w) (hC : CmpLays Tryz.prog g cb encR 9 cf blk off d0.size w0) (hR : RowK encR 9 w0 blk off d0) (hsz : d0.size ≤ 1000) :
  ∀ (N a m b : Nat) (d : Array RowR) (w : World), b - a < N → a < m → m < b → b ≤ d.size → d.size = d0.size → SrF k (atA d) a m → SrF k (atA d) m b → SWK encR 9 w0 blk off d w →
  Calls Tryz.prog 291 #[.slice (some ⟨blk, off, none⟩) d.size cap, .int .i64 (a : Nat), .int .i64 (m : Nat), .int .i64 (b : Nat), .func (.func g) #[] cb] w fun e w' => e = .returned (.tuple #[]) ∧ ∃ d' : Array RowR, d'.size = d.size ∧ (FiF k (atA d) (atA d') a b ∧ SrF k (atA d') a b) ∧ SWK encR 9 w0 blk off d' w' := by
 intro N
 induction N with
 | zero => intro a m b d w h; exact absurd h (Nat.not_lt_zero _)
 | succ N ih0 =>
  intro a m b d w hN ham hmb hb hds hA hB hS
  by_cases h1 : m = a + 1
  ·exact symA_any k cf hcf g cb blk off cap d0 w0 he hC hR hsz a m b d w ham hmb hb hds hA hB hS h1
  ·by_cases h2 : b = m + 1
   ·exact symB_any k cf hcf g cb blk off cap d0 w0 he hC hR hsz a m b d w ham hmb hb hds hA hB hS h1 h2
   ·exact symC_any k cf hcf g cb blk off cap d0 w0 he hC hR hsz N ih0 a m b d w ham hmb hb hds hA hB hS hN h1 h2
end Go.Proofs.YtihggkmjalofiaaGreatDoor
