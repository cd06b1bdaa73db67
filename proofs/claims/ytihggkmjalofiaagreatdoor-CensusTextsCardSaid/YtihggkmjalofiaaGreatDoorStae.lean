/- slices.SortStableFunc at a census' rows: merging in place walked. -/
import Derived.Test.YtihggkmjalofiaaGreatDoorStac
namespace Go.Proofs.YtihggkmjalofiaaGreatDoor
open Go.RowKit Go.Sort Go.Lib Go.Shelf

/-- the walk's search between two sorted parts -/
theorem sym_lo {k : RowR → Int} {D : Nat → RowR} {a m b p s c : Nat} (hA : SrF k D a m) (hB : SrF k D m b) (h1 : a ≤ s) (h2 : c < m) (h3 : m ≤ p - c) (h4 : p - s < b) (h6 : ¬ k (D c) < k (D (p - c))) : ∀ x, s ≤ x → x < c + 1 → k (D (p - x)) ≤ k (D x) := fun x hx hx2 => by
 have e1 := hA x c (by omega) (by omega) h2
 have e2 := hB (p - c) (p - x) h3 (by omega) (by omega)
 omega
theorem sym_hi {k : RowR → Int} {D : Nat → RowR} {a m b p r c : Nat} (hA : SrF k D a m) (hB : SrF k D m b) (h1 : a ≤ c) (h2 : r ≤ m) (h3 : m ≤ p - (r - 1)) (h4 : p - c < b) (h5 : k (D c) < k (D (p - c))) : ∀ x, c ≤ x → x < r → k (D x) < k (D (p - x)) := fun x hx hx2 => by
 have e1 := hA c x h1 hx (by omega)
 have e2 := hB (p - x) (p - c) (by omega) (by omega) h4
 omega

set_option maxRecDepth 100000 in
set_option maxHeartbeats 16000000 in
/-- merging: one element ahead -/
theorem symA_any (k : RowR → Int) (cf : RowR → RowR → Int) (hcf : LessIs cf k) (g : Nat) (cb : Array Value) (blk off cap : Nat) (d0 : Array RowR) (w0 : World) (he : ∀ args w, (callFunc g args).run Tryz.prog w = .ok (.enter g args) w) (hC : CmpLays Tryz.prog g cb encR 9 cf blk off d0.size w0) (hR : RowK encR 9 w0 blk off d0) (hsz : d0.size ≤ 1000) (a m b : Nat) (d : Array RowR) (w : World) (_ham : a < m) (_hmb : m < b) (hb : b ≤ d.size) (hds : d.size = d0.size) (hA : SrF k (atA d) a m) (hB : SrF k (atA d) m b) (hS : SWK encR 9 w0 blk off d w) (h1 : m = a + 1) :
  Calls Tryz.prog 291 #[.slice (some ⟨blk, off, none⟩) d.size cap, .int .i64 (a : Nat), .int .i64 (m : Nat), .int .i64 (b : Nat), .func (.func g) #[] cb] w fun e w' => e = .returned (.tuple #[]) ∧ ∃ d' : Array RowR, d'.size = d.size ∧ (FiF k (atA d) (atA d') a b ∧ SrF k (atA d') a b) ∧ SWK encR 9 w0 blk off d' w' := by
 have HE := Lib.hid he
 have HC := Lib.hid hC
 have R := Lib.hid hR
 have CF := Lib.hid hcf
 have mixed : Tryz.prog.follows .mixedOrders = true := by kernel_rfl
 have A := Lib.hid hA
 have B := Lib.hid hB
 have S0 := Lib.hid hS
 have HD := Lib.hid hds
 have hsz2 : d.size ≤ 1000 := by omega
 have hsd : d0.size = d.size := HD.out.symm
 clear he hC hR hcf hA hB hS hds
 obtain ⟨p1, hp1⟩ : ∃ x, x = m - a := ⟨_, rfl⟩
 obtain ⟨p2, hp2⟩ : ∃ x, x = b - m := ⟨_, rfl⟩
 have HP1 := Lib.hid hp1
 have HP2 := Lib.hid hp2
 clear hp1 hp2
 go_enter Tryz.func291, Tryz.ntmps291
 have F1 : p1 ≤ 1 ∧ 1 ≤ p1 := by have := HP1.out; omega
 have H1 := Lib.hid h1
 clear h1
 have hz0 : ((m : Nat) : Int) - ((a : Nat) : Int) = 1 := by have := H1.out; omega
 go_wp2_with fail
 go_loopw [10, 11] (fun iv jv wr => ∃ i j : Nat, iv = .int .i64 ((i : Nat) : Int) ∧ jv = .int .i64 ((j : Nat) : Int) ∧ m ≤ i ∧ i ≤ j ∧ j ≤ b ∧ Hid (∀ x, m ≤ x → x < i → k (atA d a) < k (atA d x)) ∧ Hid (∀ x, j ≤ x → x < b → k (atA d x) ≤ k (atA d a)) ∧ Hid (SWK encR 9 w0 blk off d wr)) (fun iv jv _ => (intOf jv).toNat - (intOf iv).toNat)
 case atStart => exact ⟨m, b, rfl, rfl, Nat.le_refl _, by omega, Nat.le_refl _, fun x h2 h3 => by omega, fun x h2 h3 => by omega, S0.out⟩
 case round =>
  clear S0
  obtain ⟨i, j, rfl, rfl, hmi, hij, hjb, LO, HI, S1⟩ := hrel
  by_cases hlt : i < j
  ·obtain ⟨s', hs'⟩ : ∃ x, x = i + j := ⟨_, rfl⟩
   obtain ⟨h, hh⟩ : ∃ h, h = s' / 2 := ⟨_, rfl⟩
   obtain ⟨hn, hhn⟩ : ∃ x, x = h + 1 := ⟨_, rfl⟩
   have hih : i ≤ h ∧ h < j ∧ s' ≤ 2000 ∧ h + 1 ≤ hn ∧ hn ≤ h + 1 := by omega
   have HH := Lib.hid hh
   have HSS := Lib.hid hs'
   have HHN := Lib.hid hhn
   clear hh hs' hhn
   have hz0 : ((i : Nat) : Int) < ((j : Nat) : Int) := by omega
   go_upto_region 5 with fail
   rw [show (((i : Nat) : Int) + ((j : Nat) : Int)) / 2 = ((h : Nat) : Int) by have := And.intro HSS.out HH.out; omega]
   by_cases hc : k (atA d a) < k (atA d h)
   ·have hv : Hid (decide (cf d[h]! d[a]! < 0) = true) := less_yes CF.out hc
    have LO2 : Hid (∀ x, m ≤ x → x < h + 1 → k (atA d a) < k (atA d x)) := fun x h2 h3 => by
     have := B.out x h h2 (by omega) (by omega)
     omega
    clear hc
    refine wp_region_Z (S := fun w' => SWK encR 9 w0 blk off d w') (Z := []) mixed ?_
    have SZ : Hid (SWK encR 9 w0 blk off d wr.drew) := S1.out.drew
    generalize wr.drew = wz at SZ ⊢
    clear S1
    simp only [List.size_toArray, List.length_cons, List.length_nil]
    refine zLight (i := 0) rfl (by kernel_rfl) (by kernel_rfl) (by kernel_rfl) (by kernel_rfl) (fun _ _ _ h => h) rfl (fun _ => exMove (v := .func (.func g) #[] cb) rfl) (fun _ => SZ.out) ?_
    simp only [Act.put, List.setIfInBounds_toArray, List.set_cons_zero, List.set_cons_succ]
    refine zLight (i := 1) rfl (by kernel_rfl) (by kernel_rfl) (by kernel_rfl) (by kernel_rfl) (fun _ _ _ h => h) rfl (fun _ => exMove (v := .slice (some ⟨blk, off, none⟩) d.size cap) rfl) (fun _ => SZ.out) ?_
    simp only [Act.put, List.setIfInBounds_toArray, List.set_cons_zero, List.set_cons_succ]
    refine zLight (i := 2) rfl (by kernel_rfl) (by kernel_rfl) (by kernel_rfl) (by kernel_rfl) (fun _ _ _ h => h) rfl (fun _ => exMove (v := .int .i64 ((h : Nat) : Int)) rfl) (fun _ => SZ.out) ?_
    simp only [Act.put, List.setIfInBounds_toArray, List.set_cons_zero, List.set_cons_succ]
    refine zLight (i := 3) rfl (by kernel_rfl) (by kernel_rfl) (by kernel_rfl) (by kernel_rfl) (fun _ _ _ h => h) rfl (fun w' => exIndex rfl rfl (indexRowS blk off d.size cap (h) (by omega) w')) (fun _ => SZ.out) ?_
    simp only [Act.put, List.setIfInBounds_toArray, List.set_cons_zero, List.set_cons_succ]
    refine zV (i := 4) rfl (by kernel_rfl) (by kernel_rfl) (by kernel_rfl) (by kernel_rfl) (by kernel_rfl) (fun _ _ _ h => h) rfl (fun w' hX => exMid rfl (swk_range hX R.out (by omega) (i := h) (by omega)) underRow rfl infoRow) SZ.out ?_
    simp only [Act.put, List.setIfInBounds_toArray, List.set_cons_zero, List.set_cons_succ]
    refine zLight (i := 5) rfl (by kernel_rfl) (by kernel_rfl) (by kernel_rfl) (by kernel_rfl) (fun _ _ _ h => h) rfl (fun _ => exMove (v := .slice (some ⟨blk, off, none⟩) d.size cap) rfl) (fun _ => SZ.out) ?_
    simp only [Act.put, List.setIfInBounds_toArray, List.set_cons_zero, List.set_cons_succ]
    refine zLight (i := 6) rfl (by kernel_rfl) (by kernel_rfl) (by kernel_rfl) (by kernel_rfl) (fun _ _ _ h => h) rfl (fun _ => exMove (v := .int .i64 ((a : Nat) : Int)) rfl) (fun _ => SZ.out) ?_
    simp only [Act.put, List.setIfInBounds_toArray, List.set_cons_zero, List.set_cons_succ]
    refine zLight (i := 7) rfl (by kernel_rfl) (by kernel_rfl) (by kernel_rfl) (by kernel_rfl) (fun _ _ _ h => h) rfl (fun w' => exIndex rfl rfl (indexRowS blk off d.size cap (a) (by omega) w')) (fun _ => SZ.out) ?_
    simp only [Act.put, List.setIfInBounds_toArray, List.set_cons_zero, List.set_cons_succ]
    refine zV (i := 8) rfl (by kernel_rfl) (by kernel_rfl) (by kernel_rfl) (by kernel_rfl) (by kernel_rfl) (fun _ _ _ h => h) rfl (fun w' hX => exMid rfl (swk_range hX R.out (by omega) (i := a) (by omega)) underRow rfl infoRow) SZ.out ?_
    simp only [Act.put, List.setIfInBounds_toArray, List.set_cons_zero, List.set_cons_succ]
    refine wpAnyZ_all (rs := [9]) (by kernel_rfl) (by simp) ?_
    intro i hi
    simp only [List.mem_cons, List.not_mem_nil, or_false] at hi
    subst hi
    refine wpOp_of rfl rfl (wp_calledW54 HE.out rfl rfl rfl (SZ.out.cmp HC.out (by omega) d[h]! d[a]! 0 #[]) ?_)
    rintro e w2 ⟨rfl, SX⟩
    have SY : Hid (SWK encR 9 w0 blk off d w2) := swk_grew SZ.out SX
    clear SX SZ
    refine ⟨_, rfl, fun _ => SY.out, ?_⟩
    simp only [Act.put, List.setIfInBounds_toArray, List.set_cons_zero, List.set_cons_succ]
    refine zLight (i := 10) rfl (by kernel_rfl) (by kernel_rfl) (by kernel_rfl) (by kernel_rfl) (fun _ _ _ h => h) rfl (fun w' => exBin (v := .bool true) rfl rfl (by rfl) (lss54 _ true hv.out w')) (fun _ => SY.out) ?_
    simp only [Act.put, List.setIfInBounds_toArray, List.set_cons_zero, List.set_cons_succ]
    refine wpAnyZ_done (by kernel_rfl) ?_ _
    go_wp2_with fail
    rw [show ((h : Nat) : Int) + 1 = ((hn : Nat) : Int) by have := HHN.out; omega]
    go_roundw
    case rel => exact ⟨hn, j, rfl, rfl, by omega, by omega, hjb, by rw [HHN.out]; exact LO2.out, HI.out, SY.out⟩
    case measure => simp [intOf]; omega
   ·have hv : Hid (decide (cf d[h]! d[a]! < 0) = false) := less_no CF.out hc
    have HI2 : Hid (∀ x, h ≤ x → x < b → k (atA d x) ≤ k (atA d a)) := fun x h2 h3 => by
     have := B.out h x (by omega) h2 h3
     omega
    clear hc
    refine wp_region_Z (S := fun w' => SWK encR 9 w0 blk off d w') (Z := []) mixed ?_
    have SZ : Hid (SWK encR 9 w0 blk off d wr.drew) := S1.out.drew
    generalize wr.drew = wz at SZ ⊢
    clear S1
    simp only [List.size_toArray, List.length_cons, List.length_nil]
    refine zLight (i := 0) rfl (by kernel_rfl) (by kernel_rfl) (by kernel_rfl) (by kernel_rfl) (fun _ _ _ h => h) rfl (fun _ => exMove (v := .func (.func g) #[] cb) rfl) (fun _ => SZ.out) ?_
    simp only [Act.put, List.setIfInBounds_toArray, List.set_cons_zero, List.set_cons_succ]
    refine zLight (i := 1) rfl (by kernel_rfl) (by kernel_rfl) (by kernel_rfl) (by kernel_rfl) (fun _ _ _ h => h) rfl (fun _ => exMove (v := .slice (some ⟨blk, off, none⟩) d.size cap) rfl) (fun _ => SZ.out) ?_
    simp only [Act.put, List.setIfInBounds_toArray, List.set_cons_zero, List.set_cons_succ]
    refine zLight (i := 2) rfl (by kernel_rfl) (by kernel_rfl) (by kernel_rfl) (by kernel_rfl) (fun _ _ _ h => h) rfl (fun _ => exMove (v := .int .i64 ((h : Nat) : Int)) rfl) (fun _ => SZ.out) ?_
    simp only [Act.put, List.setIfInBounds_toArray, List.set_cons_zero, List.set_cons_succ]
    refine zLight (i := 3) rfl (by kernel_rfl) (by kernel_rfl) (by kernel_rfl) (by kernel_rfl) (fun _ _ _ h => h) rfl (fun w' => exIndex rfl rfl (indexRowS blk off d.size cap (h) (by omega) w')) (fun _ => SZ.out) ?_
    simp only [Act.put, List.setIfInBounds_toArray, List.set_cons_zero, List.set_cons_succ]
    refine zV (i := 4) rfl (by kernel_rfl) (by kernel_rfl) (by kernel_rfl) (by kernel_rfl) (by kernel_rfl) (fun _ _ _ h => h) rfl (fun w' hX => exMid rfl (swk_range hX R.out (by omega) (i := h) (by omega)) underRow rfl infoRow) SZ.out ?_
    simp only [Act.put, List.setIfInBounds_toArray, List.set_cons_zero, List.set_cons_succ]
    refine zLight (i := 5) rfl (by kernel_rfl) (by kernel_rfl) (by kernel_rfl) (by kernel_rfl) (fun _ _ _ h => h) rfl (fun _ => exMove (v := .slice (some ⟨blk, off, none⟩) d.size cap) rfl) (fun _ => SZ.out) ?_
    simp only [Act.put, List.setIfInBounds_toArray, List.set_cons_zero, List.set_cons_succ]
    refine zLight (i := 6) rfl (by kernel_rfl) (by kernel_rfl) (by kernel_rfl) (by kernel_rfl) (fun _ _ _ h => h) rfl (fun _ => exMove (v := .int .i64 ((a : Nat) : Int)) rfl) (fun _ => SZ.out) ?_
    simp only [Act.put, List.setIfInBounds_toArray, List.set_cons_zero, List.set_cons_succ]
    refine zLight (i := 7) rfl (by kernel_rfl) (by kernel_rfl) (by kernel_rfl) (by kernel_rfl) (fun _ _ _ h => h) rfl (fun w' => exIndex rfl rfl (indexRowS blk off d.size cap (a) (by omega) w')) (fun _ => SZ.out) ?_
    simp only [Act.put, List.setIfInBounds_toArray, List.set_cons_zero, List.set_cons_succ]
    refine zV (i := 8) rfl (by kernel_rfl) (by kernel_rfl) (by kernel_rfl) (by kernel_rfl) (by kernel_rfl) (fun _ _ _ h => h) rfl (fun w' hX => exMid rfl (swk_range hX R.out (by omega) (i := a) (by omega)) underRow rfl infoRow) SZ.out ?_
    simp only [Act.put, List.setIfInBounds_toArray, List.set_cons_zero, List.set_cons_succ]
    refine wpAnyZ_all (rs := [9]) (by kernel_rfl) (by simp) ?_
    intro i hi
    simp only [List.mem_cons, List.not_mem_nil, or_false] at hi
    subst hi
    refine wpOp_of rfl rfl (wp_calledW54 HE.out rfl rfl rfl (SZ.out.cmp HC.out (by omega) d[h]! d[a]! 0 #[]) ?_)
    rintro e w2 ⟨rfl, SX⟩
    have SY : Hid (SWK encR 9 w0 blk off d w2) := swk_grew SZ.out SX
    clear SX SZ
    refine ⟨_, rfl, fun _ => SY.out, ?_⟩
    simp only [Act.put, List.setIfInBounds_toArray, List.set_cons_zero, List.set_cons_succ]
    refine zLight (i := 10) rfl (by kernel_rfl) (by kernel_rfl) (by kernel_rfl) (by kernel_rfl) (fun _ _ _ h => h) rfl (fun w' => exBin (v := .bool false) rfl rfl (by rfl) (lss54 _ false hv.out w')) (fun _ => SY.out) ?_
    simp only [Act.put, List.setIfInBounds_toArray, List.set_cons_zero, List.set_cons_succ]
    refine wpAnyZ_done (by kernel_rfl) ?_ _
    go_wp2_with fail
    go_roundw
    case rel => exact ⟨i, h, rfl, rfl, hmi, by omega, by omega, LO.out, HI2.out, SY.out⟩
    case measure => simp [intOf]; omega
  ·obtain rfl : i = j := by omega
   obtain ⟨im, him⟩ : ∃ x, x = i - 1 := ⟨_, rfl⟩
   have F2 : a ≤ im ∧ im + 1 ≤ i ∧ i ≤ im + 1 := by omega
   have HIM := Lib.hid him
   clear him
   have hz0 : ¬ ((i : Nat) : Int) < ((i : Nat) : Int) := by omega
   go_upto_region 9 with fail
   go_loopw [13] (fun kv wr => ∃ (q : Nat) (dk : Array RowR), kv = .int .i64 ((q : Nat) : Int) ∧ a ≤ q ∧ q ≤ im ∧ Hid (dk.size = d.size) ∧ Hid (atA dk = upF (atA d) a q) ∧ Hid (SWK encR 9 w0 blk off dk wr)) (fun kv _ => i - (intOf kv).toNat)
   case atStart => exact ⟨a, d, rfl, Nat.le_refl _, F2.1, rfl, (upF_none _ _).symm, S1.out⟩
   case round =>
    clear S1
    obtain ⟨q, dk, rfl, haq, hqi, HDk, HU, S1⟩ := hrel
    obtain ⟨qn, hqn⟩ : ∃ x, x = q + 1 := ⟨_, rfl⟩
    have F3 : q + 1 ≤ qn ∧ qn ≤ q + 1 := by omega
    have HQN := Lib.hid hqn
    clear hqn
    by_cases hlq : q < im
    ·have HU2 : Hid (atA (swp dk q (q + 1)) = upF (atA d) a (q + 1)) := upF_step HU.out haq (by rw [HDk.out]; omega)
     have hdk : dk.size = d.size := HDk.out
     have hz0 : ((q : Nat) : Int) < ((i : Nat) : Int) - 1 := by omega
     go_upto_region 11 with fail
     refine wp_region_Z (S := fun w' => SWK encR 9 w0 blk off dk w') (Z := [15]) mixed ?_
     have SZ : Hid (SWK encR 9 w0 blk off dk wr.drew) := S1.out.drew
     generalize wr.drew = wz at SZ ⊢
     clear S1
     simp only [List.size_toArray, List.length_cons, List.length_nil]
     refine zLight (i := 0) rfl (by kernel_rfl) (by kernel_rfl) (by kernel_rfl) (by kernel_rfl) (fun _ _ _ h => h) rfl (fun _ => exMove (v := .slice (some ⟨blk, off, none⟩) d.size cap) rfl) (fun _ => SZ.out) ?_
     simp only [Act.put, List.setIfInBounds_toArray, List.set_cons_zero, List.set_cons_succ]
     refine zLight (i := 1) rfl (by kernel_rfl) (by kernel_rfl) (by kernel_rfl) (by kernel_rfl) (fun _ _ _ h => h) rfl (fun _ => exMove (v := .int .i64 ((q : Nat) : Int)) rfl) (fun _ => SZ.out) ?_
     simp only [Act.put, List.setIfInBounds_toArray, List.set_cons_zero, List.set_cons_succ]
     refine zLight (i := 2) rfl (by kernel_rfl) (by kernel_rfl) (by kernel_rfl) (by kernel_rfl) (fun _ _ _ h => h) rfl (fun _ => exMove (v := .slice (some ⟨blk, off, none⟩) d.size cap) rfl) (fun _ => SZ.out) ?_
     simp only [Act.put, List.setIfInBounds_toArray, List.set_cons_zero, List.set_cons_succ]
     refine zLight (i := 3) rfl (by kernel_rfl) (by kernel_rfl) (by kernel_rfl) (by kernel_rfl) (fun _ _ _ h => h) rfl (fun _ => exMove (v := .int .i64 ((q : Nat) : Int)) rfl) (fun _ => SZ.out) ?_
     simp only [Act.put, List.setIfInBounds_toArray, List.set_cons_zero, List.set_cons_succ]
     refine zLight (i := 4) rfl (by kernel_rfl) (by kernel_rfl) (by kernel_rfl) (by kernel_rfl) (fun _ _ _ h => h) rfl (fun w' => exBin (v := .int .i64 ((q + 1 : Nat) : Int)) rfl rfl (by rfl) (nadd54 (q) (1) w' (by omega))) (fun _ => SZ.out) ?_
     simp only [Act.put, List.setIfInBounds_toArray, List.set_cons_zero, List.set_cons_succ]
     refine zLight (i := 5) rfl (by kernel_rfl) (by kernel_rfl) (by kernel_rfl) (by kernel_rfl) (fun _ _ _ h => h) rfl (fun _ => exMove (v := .slice (some ⟨blk, off, none⟩) d.size cap) rfl) (fun _ => SZ.out) ?_
     simp only [Act.put, List.setIfInBounds_toArray, List.set_cons_zero, List.set_cons_succ]
     refine zLight (i := 6) rfl (by kernel_rfl) (by kernel_rfl) (by kernel_rfl) (by kernel_rfl) (fun _ _ _ h => h) rfl (fun _ => exMove (v := .int .i64 ((q : Nat) : Int)) rfl) (fun _ => SZ.out) ?_
     simp only [Act.put, List.setIfInBounds_toArray, List.set_cons_zero, List.set_cons_succ]
     refine zLight (i := 7) rfl (by kernel_rfl) (by kernel_rfl) (by kernel_rfl) (by kernel_rfl) (fun _ _ _ h => h) rfl (fun w' => exBin (v := .int .i64 ((q + 1 : Nat) : Int)) rfl rfl (by rfl) (nadd54 (q) (1) w' (by omega))) (fun _ => SZ.out) ?_
     simp only [Act.put, List.setIfInBounds_toArray, List.set_cons_zero, List.set_cons_succ]
     refine zLight (i := 8) rfl (by kernel_rfl) (by kernel_rfl) (by kernel_rfl) (by kernel_rfl) (fun _ _ _ h => h) rfl (fun w' => exIndex rfl rfl (indexRowS blk off d.size cap (q + 1) (by omega) w')) (fun _ => SZ.out) ?_
     simp only [Act.put, List.setIfInBounds_toArray, List.set_cons_zero, List.set_cons_succ]
     refine zV (i := 9) rfl (by kernel_rfl) (by kernel_rfl) (by kernel_rfl) (by kernel_rfl) (by kernel_rfl) (fun _ _ _ h => h) rfl (fun w' hX => exMid rfl (swk_range hX R.out (by omega) (i := q + 1) (by omega)) underRow rfl infoRow) SZ.out ?_
     simp only [Act.put, List.setIfInBounds_toArray, List.set_cons_zero, List.set_cons_succ]
     refine zLight (i := 10) rfl (by kernel_rfl) (by kernel_rfl) (by kernel_rfl) (by kernel_rfl) (fun _ _ _ h => h) rfl (fun _ => exMove (v := .slice (some ⟨blk, off, none⟩) d.size cap) rfl) (fun _ => SZ.out) ?_
     simp only [Act.put, List.setIfInBounds_toArray, List.set_cons_zero, List.set_cons_succ]
     refine zLight (i := 11) rfl (by kernel_rfl) (by kernel_rfl) (by kernel_rfl) (by kernel_rfl) (fun _ _ _ h => h) rfl (fun _ => exMove (v := .int .i64 ((q : Nat) : Int)) rfl) (fun _ => SZ.out) ?_
     simp only [Act.put, List.setIfInBounds_toArray, List.set_cons_zero, List.set_cons_succ]
     refine zLight (i := 12) rfl (by kernel_rfl) (by kernel_rfl) (by kernel_rfl) (by kernel_rfl) (fun _ _ _ h => h) rfl (fun w' => exIndex rfl rfl (indexRowS blk off d.size cap (q) (by omega) w')) (fun _ => SZ.out) ?_
     simp only [Act.put, List.setIfInBounds_toArray, List.set_cons_zero, List.set_cons_succ]
     refine zV (i := 13) rfl (by kernel_rfl) (by kernel_rfl) (by kernel_rfl) (by kernel_rfl) (by kernel_rfl) (fun _ _ _ h => h) rfl (fun w' hX => exMid rfl (swk_range hX R.out (by omega) (i := q) (by omega)) underRow rfl infoRow) SZ.out ?_
     simp only [Act.put, List.setIfInBounds_toArray, List.set_cons_zero, List.set_cons_succ]
     refine zLight (i := 14) rfl (by kernel_rfl) (by kernel_rfl) (by kernel_rfl) (by kernel_rfl) (fun _ _ _ h => h) rfl (fun w' => exIndex rfl rfl (indexRowS blk off d.size cap (q) (by omega) w')) (fun _ => SZ.out) ?_
     simp only [Act.put, List.setIfInBounds_toArray, List.set_cons_zero, List.set_cons_succ]
     refine wpAnyZ_all (rs := [15]) (by kernel_rfl) (by simp) ?_
     intro i hi
     simp only [List.mem_cons, List.not_mem_nil, or_false] at hi
     subst hi
     refine wpOp_of rfl rfl (wp_store_midN (b := blk) (o := off + (q) * 9) (cs := encR dk[q + 1]!) rfl rfl (swk_there SZ.out R.out (by omega) dk[q + 1]! (i := q) (by omega)) infoRow (all_oneCell_toArray (encR_one _)) ?_)
     refine ⟨noZ (by kernel_rfl), ?_⟩
     obtain ⟨w8, e8⟩ : ∃ w8, w8 = wz.setCells blk (off + (q) * 9) (encR dk[q + 1]!) := ⟨_, rfl⟩
     rw [← e8]
     have E8 := Lib.hid e8
     clear e8
     refine zLight (i := 16) rfl (by kernel_rfl) (by kernel_rfl) (by kernel_rfl) (by kernel_rfl) (fun _ _ _ h => h) rfl (fun w' => exIndex rfl rfl (indexRowS blk off d.size cap (q + 1) (by omega) w')) (noZ (by kernel_rfl)) ?_
     simp only [Act.put, List.setIfInBounds_toArray, List.set_cons_zero, List.set_cons_succ]
     refine wpAnyZ_all (rs := [17]) (by kernel_rfl) (by simp) ?_
     intro i hi
     simp only [List.mem_cons, List.not_mem_nil, or_false] at hi
     subst hi
     have TZ : Hid (w8.there blk (off + (q + 1) * 9) (encR dk[q]!).toArray.size) := by rw [E8.out]; exact World.there_setCells (swk_there SZ.out R.out (by omega) dk[q]! (i := q + 1) (by omega)) _ _ _
     refine wpOp_of rfl rfl (wp_store_midN (b := blk) (o := off + (q + 1) * 9) (cs := encR dk[q]!) rfl rfl (TZ.out) infoRow (all_oneCell_toArray (encR_one _)) ?_)
     refine ⟨noZ (by kernel_rfl), ?_⟩
     refine wpAnyZ_done (by kernel_rfl) ?_ _
     have SW : Hid (SWK encR 9 w0 blk off (swp dk (q) (q + 1)) (w8.setCells blk (off + (q + 1) * 9) (encR dk[q]!))) := by rw [E8.out]; exact SZ.out.swap encR_len R.out.hblk (q) (q + 1) (by omega) (by omega)
     clear SZ TZ E8
     generalize (w8.setCells blk (off + (q + 1) * 9) (encR dk[q]!)) = w9 at SW ⊢
     go_wp2_with fail
     rw [show ((q : Nat) : Int) + 1 = ((qn : Nat) : Int) by have := HQN.out; omega]
     go_roundw
     case rel => exact ⟨qn, swp dk q (q + 1), rfl, by omega, by omega, by rw [Hid, size_swp]; exact HDk.out, by rw [HQN.out]; exact HU2.out, SW.out⟩
     case measure => simp [intOf]; omega
    ·have LQ : im ≤ q := by omega
     have hqi : Hid (q = i - 1) := by have := HIM.out; rw [Hid]; omega
     have hq : Hid (FiF k (atA d) (atA dk) a b ∧ SrF k (atA dk) a b) := ins_front (D := atA d) (D' := atA dk) (i := i) (by rw [← H1.out]; exact B.out) (by omega) (by omega) (fun x h2 h3 => LO.out x (by omega) h3) (fun x h2 h3 => HI.out x h2 h3) (fun x => by rw [HU.out, hqi.out]; rfl)
     have hz0 : ¬ ((q : Nat) : Int) < ((i : Nat) : Int) - 1 := by omega
     go_wp2_with fail
     (try simp only [Exit.inBlock, Exit.then]); refine bodyPost_ret (results_none rfl _ _ _) rfl ?_
     exact ⟨rfl, dk, HDk.out, hq.out, S1.out⟩
set_option maxRecDepth 100000 in
set_option maxHeartbeats 16000000 in
/-- merging: one element behind -/
theorem symB_any (k : RowR → Int) (cf : RowR → RowR → Int) (hcf : LessIs cf k) (g : Nat) (cb : Array Value) (blk off cap : Nat) (d0 : Array RowR) (w0 : World) (he : ∀ args w, (callFunc g args).run Tryz.prog w = .ok (.enter g args) w) (hC : CmpLays Tryz.prog g cb encR 9 cf blk off d0.size w0) (hR : RowK encR 9 w0 blk off d0) (hsz : d0.size ≤ 1000) (a m b : Nat) (d : Array RowR) (w : World) (_ham : a < m) (_hmb : m < b) (hb : b ≤ d.size) (hds : d.size = d0.size) (hA : SrF k (atA d) a m) (hB : SrF k (atA d) m b) (hS : SWK encR 9 w0 blk off d w) (h1 : ¬ m = a + 1) (h2 : b = m + 1) :
  Calls Tryz.prog 291 #[.slice (some ⟨blk, off, none⟩) d.size cap, .int .i64 (a : Nat), .int .i64 (m : Nat), .int .i64 (b : Nat), .func (.func g) #[] cb] w fun e w' => e = .returned (.tuple #[]) ∧ ∃ d' : Array RowR, d'.size = d.size ∧ (FiF k (atA d) (atA d') a b ∧ SrF k (atA d') a b) ∧ SWK encR 9 w0 blk off d' w' := by
 have HE := Lib.hid he
 have HC := Lib.hid hC
 have R := Lib.hid hR
 have CF := Lib.hid hcf
 have mixed : Tryz.prog.follows .mixedOrders = true := by kernel_rfl
 have A := Lib.hid hA
 have B := Lib.hid hB
 have S0 := Lib.hid hS
 have HD := Lib.hid hds
 have hsz2 : d.size ≤ 1000 := by omega
 have hsd : d0.size = d.size := HD.out.symm
 clear he hC hR hcf hA hB hS hds
 obtain ⟨p1, hp1⟩ : ∃ x, x = m - a := ⟨_, rfl⟩
 obtain ⟨p2, hp2⟩ : ∃ x, x = b - m := ⟨_, rfl⟩
 have HP1 := Lib.hid hp1
 have HP2 := Lib.hid hp2
 clear hp1 hp2
 go_enter Tryz.func291, Tryz.ntmps291
 have F1 : 2 ≤ p1 ∧ p2 ≤ 1 ∧ 1 ≤ p2 := by have := HP1.out; have := HP2.out; omega
 have H2 := Lib.hid h2
 clear h2
 have hz0 : ¬ ((m : Nat) : Int) - ((a : Nat) : Int) = 1 := by omega
 have hz1 : ((b : Nat) : Int) - ((m : Nat) : Int) = 1 := by have := H2.out; omega
 go_wp2_with fail
 go_loopw [14, 15] (fun iv jv wr => ∃ i j : Nat, iv = .int .i64 ((i : Nat) : Int) ∧ jv = .int .i64 ((j : Nat) : Int) ∧ a ≤ i ∧ i ≤ j ∧ j ≤ m ∧ Hid (∀ x, a ≤ x → x < i → k (atA d m) ≤ k (atA d x)) ∧ Hid (∀ x, j ≤ x → x < m → k (atA d x) < k (atA d m)) ∧ Hid (SWK encR 9 w0 blk off d wr)) (fun iv jv _ => (intOf jv).toNat - (intOf iv).toNat)
 case atStart => exact ⟨a, m, rfl, rfl, Nat.le_refl _, by omega, Nat.le_refl _, fun x h3 h4 => by omega, fun x h3 h4 => by omega, S0.out⟩
 case round =>
  clear S0
  obtain ⟨i, j, rfl, rfl, hmi, hij, hjb, LO, HI, S1⟩ := hrel
  by_cases hlt : i < j
  ·obtain ⟨s', hs'⟩ : ∃ x, x = i + j := ⟨_, rfl⟩
   obtain ⟨h, hh⟩ : ∃ h, h = s' / 2 := ⟨_, rfl⟩
   obtain ⟨hn, hhn⟩ : ∃ x, x = h + 1 := ⟨_, rfl⟩
   have hih : i ≤ h ∧ h < j ∧ s' ≤ 2000 ∧ h + 1 ≤ hn ∧ hn ≤ h + 1 := by omega
   have HH := Lib.hid hh
   have HSS := Lib.hid hs'
   have HHN := Lib.hid hhn
   clear hh hs' hhn
   have hz0 : ((i : Nat) : Int) < ((j : Nat) : Int) := by omega
   go_upto_region 17 with fail
   rw [show (((i : Nat) : Int) + ((j : Nat) : Int)) / 2 = ((h : Nat) : Int) by have := And.intro HSS.out HH.out; omega]
   by_cases hc : k (atA d h) < k (atA d m)
   ·have hv : Hid (decide (cf d[m]! d[h]! < 0) = true) := less_yes CF.out hc
    have HI2 : Hid (∀ x, h ≤ x → x < m → k (atA d x) < k (atA d m)) := fun x h3 h4 => by
     have := A.out h x (by omega) h3 h4
     omega
    clear hc
    refine wp_region_Z (S := fun w' => SWK encR 9 w0 blk off d w') (Z := []) mixed ?_
    have SZ : Hid (SWK encR 9 w0 blk off d wr.drew) := S1.out.drew
    generalize wr.drew = wz at SZ ⊢
    clear S1
    simp only [List.size_toArray, List.length_cons, List.length_nil]
    refine zLight (i := 0) rfl (by kernel_rfl) (by kernel_rfl) (by kernel_rfl) (by kernel_rfl) (fun _ _ _ h => h) rfl (fun _ => exMove (v := .func (.func g) #[] cb) rfl) (fun _ => SZ.out) ?_
    simp only [Act.put, List.setIfInBounds_toArray, List.set_cons_zero, List.set_cons_succ]
    refine zLight (i := 1) rfl (by kernel_rfl) (by kernel_rfl) (by kernel_rfl) (by kernel_rfl) (fun _ _ _ h => h) rfl (fun _ => exMove (v := .slice (some ⟨blk, off, none⟩) d.size cap) rfl) (fun _ => SZ.out) ?_
    simp only [Act.put, List.setIfInBounds_toArray, List.set_cons_zero, List.set_cons_succ]
    refine zLight (i := 2) rfl (by kernel_rfl) (by kernel_rfl) (by kernel_rfl) (by kernel_rfl) (fun _ _ _ h => h) rfl (fun _ => exMove (v := .int .i64 ((m : Nat) : Int)) rfl) (fun _ => SZ.out) ?_
    simp only [Act.put, List.setIfInBounds_toArray, List.set_cons_zero, List.set_cons_succ]
    refine zLight (i := 3) rfl (by kernel_rfl) (by kernel_rfl) (by kernel_rfl) (by kernel_rfl) (fun _ _ _ h => h) rfl (fun w' => exIndex rfl rfl (indexRowS blk off d.size cap (m) (by omega) w')) (fun _ => SZ.out) ?_
    simp only [Act.put, List.setIfInBounds_toArray, List.set_cons_zero, List.set_cons_succ]
    refine zV (i := 4) rfl (by kernel_rfl) (by kernel_rfl) (by kernel_rfl) (by kernel_rfl) (by kernel_rfl) (fun _ _ _ h => h) rfl (fun w' hX => exMid rfl (swk_range hX R.out (by omega) (i := m) (by omega)) underRow rfl infoRow) SZ.out ?_
    simp only [Act.put, List.setIfInBounds_toArray, List.set_cons_zero, List.set_cons_succ]
    refine zLight (i := 5) rfl (by kernel_rfl) (by kernel_rfl) (by kernel_rfl) (by kernel_rfl) (fun _ _ _ h => h) rfl (fun _ => exMove (v := .slice (some ⟨blk, off, none⟩) d.size cap) rfl) (fun _ => SZ.out) ?_
    simp only [Act.put, List.setIfInBounds_toArray, List.set_cons_zero, List.set_cons_succ]
    refine zLight (i := 6) rfl (by kernel_rfl) (by kernel_rfl) (by kernel_rfl) (by kernel_rfl) (fun _ _ _ h => h) rfl (fun _ => exMove (v := .int .i64 ((h : Nat) : Int)) rfl) (fun _ => SZ.out) ?_
    simp only [Act.put, List.setIfInBounds_toArray, List.set_cons_zero, List.set_cons_succ]
    refine zLight (i := 7) rfl (by kernel_rfl) (by kernel_rfl) (by kernel_rfl) (by kernel_rfl) (fun _ _ _ h => h) rfl (fun w' => exIndex rfl rfl (indexRowS blk off d.size cap (h) (by omega) w')) (fun _ => SZ.out) ?_
    simp only [Act.put, List.setIfInBounds_toArray, List.set_cons_zero, List.set_cons_succ]
    refine zV (i := 8) rfl (by kernel_rfl) (by kernel_rfl) (by kernel_rfl) (by kernel_rfl) (by kernel_rfl) (fun _ _ _ h => h) rfl (fun w' hX => exMid rfl (swk_range hX R.out (by omega) (i := h) (by omega)) underRow rfl infoRow) SZ.out ?_
    simp only [Act.put, List.setIfInBounds_toArray, List.set_cons_zero, List.set_cons_succ]
    refine wpAnyZ_all (rs := [9]) (by kernel_rfl) (by simp) ?_
    intro i hi
    simp only [List.mem_cons, List.not_mem_nil, or_false] at hi
    subst hi
    refine wpOp_of rfl rfl (wp_calledW54 HE.out rfl rfl rfl (SZ.out.cmp HC.out (by omega) d[m]! d[h]! 0 #[]) ?_)
    rintro e w2 ⟨rfl, SX⟩
    have SY : Hid (SWK encR 9 w0 blk off d w2) := swk_grew SZ.out SX
    clear SX SZ
    refine ⟨_, rfl, fun _ => SY.out, ?_⟩
    simp only [Act.put, List.setIfInBounds_toArray, List.set_cons_zero, List.set_cons_succ]
    refine zLight (i := 10) rfl (by kernel_rfl) (by kernel_rfl) (by kernel_rfl) (by kernel_rfl) (fun _ _ _ h => h) rfl (fun w' => exBin (v := .bool true) rfl rfl (by rfl) (lss54 _ true hv.out w')) (fun _ => SY.out) ?_
    simp only [Act.put, List.setIfInBounds_toArray, List.set_cons_zero, List.set_cons_succ]
    refine zLight (i := 11) rfl (by kernel_rfl) (by kernel_rfl) (by kernel_rfl) (by kernel_rfl) (fun _ _ _ h => h) rfl (fun _ => exNot (b := true) rfl) (fun _ => SY.out) ?_
    simp only [Act.put, List.setIfInBounds_toArray, List.set_cons_zero, List.set_cons_succ]
    refine wpAnyZ_done (by kernel_rfl) ?_ _
    go_wp2_with fail
    go_roundw
    case rel => exact ⟨i, h, rfl, rfl, hmi, by omega, by omega, LO.out, HI2.out, SY.out⟩
    case measure => simp [intOf]; omega
   ·have hv : Hid (decide (cf d[m]! d[h]! < 0) = false) := less_no CF.out hc
    have LO2 : Hid (∀ x, a ≤ x → x < h + 1 → k (atA d m) ≤ k (atA d x)) := fun x h3 h4 => by
     have := A.out x h h3 (by omega) (by omega)
     omega
    clear hc
    refine wp_region_Z (S := fun w' => SWK encR 9 w0 blk off d w') (Z := []) mixed ?_
    have SZ : Hid (SWK encR 9 w0 blk off d wr.drew) := S1.out.drew
    generalize wr.drew = wz at SZ ⊢
    clear S1
    simp only [List.size_toArray, List.length_cons, List.length_nil]
    refine zLight (i := 0) rfl (by kernel_rfl) (by kernel_rfl) (by kernel_rfl) (by kernel_rfl) (fun _ _ _ h => h) rfl (fun _ => exMove (v := .func (.func g) #[] cb) rfl) (fun _ => SZ.out) ?_
    simp only [Act.put, List.setIfInBounds_toArray, List.set_cons_zero, List.set_cons_succ]
    refine zLight (i := 1) rfl (by kernel_rfl) (by kernel_rfl) (by kernel_rfl) (by kernel_rfl) (fun _ _ _ h => h) rfl (fun _ => exMove (v := .slice (some ⟨blk, off, none⟩) d.size cap) rfl) (fun _ => SZ.out) ?_
    simp only [Act.put, List.setIfInBounds_toArray, List.set_cons_zero, List.set_cons_succ]
    refine zLight (i := 2) rfl (by kernel_rfl) (by kernel_rfl) (by kernel_rfl) (by kernel_rfl) (fun _ _ _ h => h) rfl (fun _ => exMove (v := .int .i64 ((m : Nat) : Int)) rfl) (fun _ => SZ.out) ?_
    simp only [Act.put, List.setIfInBounds_toArray, List.set_cons_zero, List.set_cons_succ]
    refine zLight (i := 3) rfl (by kernel_rfl) (by kernel_rfl) (by kernel_rfl) (by kernel_rfl) (fun _ _ _ h => h) rfl (fun w' => exIndex rfl rfl (indexRowS blk off d.size cap (m) (by omega) w')) (fun _ => SZ.out) ?_
    simp only [Act.put, List.setIfInBounds_toArray, List.set_cons_zero, List.set_cons_succ]
    refine zV (i := 4) rfl (by kernel_rfl) (by kernel_rfl) (by kernel_rfl) (by kernel_rfl) (by kernel_rfl) (fun _ _ _ h => h) rfl (fun w' hX => exMid rfl (swk_range hX R.out (by omega) (i := m) (by omega)) underRow rfl infoRow) SZ.out ?_
    simp only [Act.put, List.setIfInBounds_toArray, List.set_cons_zero, List.set_cons_succ]
    refine zLight (i := 5) rfl (by kernel_rfl) (by kernel_rfl) (by kernel_rfl) (by kernel_rfl) (fun _ _ _ h => h) rfl (fun _ => exMove (v := .slice (some ⟨blk, off, none⟩) d.size cap) rfl) (fun _ => SZ.out) ?_
    simp only [Act.put, List.setIfInBounds_toArray, List.set_cons_zero, List.set_cons_succ]
    refine zLight (i := 6) rfl (by kernel_rfl) (by kernel_rfl) (by kernel_rfl) (by kernel_rfl) (fun _ _ _ h => h) rfl (fun _ => exMove (v := .int .i64 ((h : Nat) : Int)) rfl) (fun _ => SZ.out) ?_
    simp only [Act.put, List.setIfInBounds_toArray, List.set_cons_zero, List.set_cons_succ]
    refine zLight (i := 7) rfl (by kernel_rfl) (by kernel_rfl) (by kernel_rfl) (by kernel_rfl) (fun _ _ _ h => h) rfl (fun w' => exIndex rfl rfl (indexRowS blk off d.size cap (h) (by omega) w')) (fun _ => SZ.out) ?_
    simp only [Act.put, List.setIfInBounds_toArray, List.set_cons_zero, List.set_cons_succ]
    refine zV (i := 8) rfl (by kernel_rfl) (by kernel_rfl) (by kernel_rfl) (by kernel_rfl) (by kernel_rfl) (fun _ _ _ h => h) rfl (fun w' hX => exMid rfl (swk_range hX R.out (by omega) (i := h) (by omega)) underRow rfl infoRow) SZ.out ?_
    simp only [Act.put, List.setIfInBounds_toArray, List.set_cons_zero, List.set_cons_succ]
    refine wpAnyZ_all (rs := [9]) (by kernel_rfl) (by simp) ?_
    intro i hi
    simp only [List.mem_cons, List.not_mem_nil, or_false] at hi
    subst hi
    refine wpOp_of rfl rfl (wp_calledW54 HE.out rfl rfl rfl (SZ.out.cmp HC.out (by omega) d[m]! d[h]! 0 #[]) ?_)
    rintro e w2 ⟨rfl, SX⟩
    have SY : Hid (SWK encR 9 w0 blk off d w2) := swk_grew SZ.out SX
    clear SX SZ
    refine ⟨_, rfl, fun _ => SY.out, ?_⟩
    simp only [Act.put, List.setIfInBounds_toArray, List.set_cons_zero, List.set_cons_succ]
    refine zLight (i := 10) rfl (by kernel_rfl) (by kernel_rfl) (by kernel_rfl) (by kernel_rfl) (fun _ _ _ h => h) rfl (fun w' => exBin (v := .bool false) rfl rfl (by rfl) (lss54 _ false hv.out w')) (fun _ => SY.out) ?_
    simp only [Act.put, List.setIfInBounds_toArray, List.set_cons_zero, List.set_cons_succ]
    refine zLight (i := 11) rfl (by kernel_rfl) (by kernel_rfl) (by kernel_rfl) (by kernel_rfl) (fun _ _ _ h => h) rfl (fun _ => exNot (b := false) rfl) (fun _ => SY.out) ?_
    simp only [Act.put, List.setIfInBounds_toArray, List.set_cons_zero, List.set_cons_succ]
    refine wpAnyZ_done (by kernel_rfl) ?_ _
    go_wp2_with fail
    rw [show ((h : Nat) : Int) + 1 = ((hn : Nat) : Int) by have := HHN.out; omega]
    go_roundw
    case rel => exact ⟨hn, j, rfl, rfl, by omega, by omega, hjb, by rw [HHN.out]; exact LO2.out, HI.out, SY.out⟩
    case measure => simp [intOf]; omega
  ·obtain rfl : i = j := by omega
   have hz0 : ¬ ((i : Nat) : Int) < ((i : Nat) : Int) := by omega
   go_upto_region 21 with fail
   go_loopw [17] (fun kv wr => ∃ (q : Nat) (dk : Array RowR), kv = .int .i64 ((q : Nat) : Int) ∧ i ≤ q ∧ q ≤ m ∧ Hid (dk.size = d.size) ∧ Hid (atA dk = downF (atA d) q m) ∧ Hid (SWK encR 9 w0 blk off dk wr)) (fun kv _ => (intOf kv).toNat)
   case atStart => exact ⟨m, d, rfl, hjb, Nat.le_refl _, rfl, (downF_none _ _).symm, S1.out⟩
   case round =>
    clear S1
    obtain ⟨q, dk, rfl, hiq, hqm, HDk, HU, S1⟩ := hrel
    obtain ⟨qn, hqn⟩ : ∃ x, x = q - 1 := ⟨_, rfl⟩
    have F3 : q - 1 ≤ qn ∧ qn ≤ q - 1 := by omega
    have HQN := Lib.hid hqn
    clear hqn
    by_cases hlq : i < q
    ·have HU2 : Hid (atA (swp dk q (q - 1)) = downF (atA d) (q - 1) m) := by
      obtain ⟨y, rfl⟩ : ∃ y, q = y + 1 := ⟨q - 1, by omega⟩
      exact downF_step HU.out (by omega) (by rw [HDk.out]; omega)
     have hdk : dk.size = d.size := HDk.out
     have hz0 : ((i : Nat) : Int) < ((q : Nat) : Int) := by omega
     go_upto_region 23 with fail
     refine wp_region_Z (S := fun w' => SWK encR 9 w0 blk off dk w') (Z := [15]) mixed ?_
     have SZ : Hid (SWK encR 9 w0 blk off dk wr.drew) := S1.out.drew
     generalize wr.drew = wz at SZ ⊢
     clear S1
     simp only [List.size_toArray, List.length_cons, List.length_nil]
     refine zLight (i := 0) rfl (by kernel_rfl) (by kernel_rfl) (by kernel_rfl) (by kernel_rfl) (fun _ _ _ h => h) rfl (fun _ => exMove (v := .slice (some ⟨blk, off, none⟩) d.size cap) rfl) (fun _ => SZ.out) ?_
     simp only [Act.put, List.setIfInBounds_toArray, List.set_cons_zero, List.set_cons_succ]
     refine zLight (i := 1) rfl (by kernel_rfl) (by kernel_rfl) (by kernel_rfl) (by kernel_rfl) (fun _ _ _ h => h) rfl (fun _ => exMove (v := .int .i64 ((q : Nat) : Int)) rfl) (fun _ => SZ.out) ?_
     simp only [Act.put, List.setIfInBounds_toArray, List.set_cons_zero, List.set_cons_succ]
     refine zLight (i := 2) rfl (by kernel_rfl) (by kernel_rfl) (by kernel_rfl) (by kernel_rfl) (fun _ _ _ h => h) rfl (fun _ => exMove (v := .slice (some ⟨blk, off, none⟩) d.size cap) rfl) (fun _ => SZ.out) ?_
     simp only [Act.put, List.setIfInBounds_toArray, List.set_cons_zero, List.set_cons_succ]
     refine zLight (i := 3) rfl (by kernel_rfl) (by kernel_rfl) (by kernel_rfl) (by kernel_rfl) (fun _ _ _ h => h) rfl (fun _ => exMove (v := .int .i64 ((q : Nat) : Int)) rfl) (fun _ => SZ.out) ?_
     simp only [Act.put, List.setIfInBounds_toArray, List.set_cons_zero, List.set_cons_succ]
     refine zLight (i := 4) rfl (by kernel_rfl) (by kernel_rfl) (by kernel_rfl) (by kernel_rfl) (fun _ _ _ h => h) rfl (fun w' => exBin (v := .int .i64 ((q - 1 : Nat) : Int)) rfl rfl (by rfl) (nsub54 (q) (1) w' (by omega) (by omega))) (fun _ => SZ.out) ?_
     simp only [Act.put, List.setIfInBounds_toArray, List.set_cons_zero, List.set_cons_succ]
     refine zLight (i := 5) rfl (by kernel_rfl) (by kernel_rfl) (by kernel_rfl) (by kernel_rfl) (fun _ _ _ h => h) rfl (fun _ => exMove (v := .slice (some ⟨blk, off, none⟩) d.size cap) rfl) (fun _ => SZ.out) ?_
     simp only [Act.put, List.setIfInBounds_toArray, List.set_cons_zero, List.set_cons_succ]
     refine zLight (i := 6) rfl (by kernel_rfl) (by kernel_rfl) (by kernel_rfl) (by kernel_rfl) (fun _ _ _ h => h) rfl (fun _ => exMove (v := .int .i64 ((q : Nat) : Int)) rfl) (fun _ => SZ.out) ?_
     simp only [Act.put, List.setIfInBounds_toArray, List.set_cons_zero, List.set_cons_succ]
     refine zLight (i := 7) rfl (by kernel_rfl) (by kernel_rfl) (by kernel_rfl) (by kernel_rfl) (fun _ _ _ h => h) rfl (fun w' => exBin (v := .int .i64 ((q - 1 : Nat) : Int)) rfl rfl (by rfl) (nsub54 (q) (1) w' (by omega) (by omega))) (fun _ => SZ.out) ?_
     simp only [Act.put, List.setIfInBounds_toArray, List.set_cons_zero, List.set_cons_succ]
     refine zLight (i := 8) rfl (by kernel_rfl) (by kernel_rfl) (by kernel_rfl) (by kernel_rfl) (fun _ _ _ h => h) rfl (fun w' => exIndex rfl rfl (indexRowS blk off d.size cap (q - 1) (by omega) w')) (fun _ => SZ.out) ?_
     simp only [Act.put, List.setIfInBounds_toArray, List.set_cons_zero, List.set_cons_succ]
     refine zV (i := 9) rfl (by kernel_rfl) (by kernel_rfl) (by kernel_rfl) (by kernel_rfl) (by kernel_rfl) (fun _ _ _ h => h) rfl (fun w' hX => exMid rfl (swk_range hX R.out (by omega) (i := q - 1) (by omega)) underRow rfl infoRow) SZ.out ?_
     simp only [Act.put, List.setIfInBounds_toArray, List.set_cons_zero, List.set_cons_succ]
     refine zLight (i := 10) rfl (by kernel_rfl) (by kernel_rfl) (by kernel_rfl) (by kernel_rfl) (fun _ _ _ h => h) rfl (fun _ => exMove (v := .slice (some ⟨blk, off, none⟩) d.size cap) rfl) (fun _ => SZ.out) ?_
     simp only [Act.put, List.setIfInBounds_toArray, List.set_cons_zero, List.set_cons_succ]
     refine zLight (i := 11) rfl (by kernel_rfl) (by kernel_rfl) (by kernel_rfl) (by kernel_rfl) (fun _ _ _ h => h) rfl (fun _ => exMove (v := .int .i64 ((q : Nat) : Int)) rfl) (fun _ => SZ.out) ?_
     simp only [Act.put, List.setIfInBounds_toArray, List.set_cons_zero, List.set_cons_succ]
     refine zLight (i := 12) rfl (by kernel_rfl) (by kernel_rfl) (by kernel_rfl) (by kernel_rfl) (fun _ _ _ h => h) rfl (fun w' => exIndex rfl rfl (indexRowS blk off d.size cap (q) (by omega) w')) (fun _ => SZ.out) ?_
     simp only [Act.put, List.setIfInBounds_toArray, List.set_cons_zero, List.set_cons_succ]
     refine zV (i := 13) rfl (by kernel_rfl) (by kernel_rfl) (by kernel_rfl) (by kernel_rfl) (by kernel_rfl) (fun _ _ _ h => h) rfl (fun w' hX => exMid rfl (swk_range hX R.out (by omega) (i := q) (by omega)) underRow rfl infoRow) SZ.out ?_
     simp only [Act.put, List.setIfInBounds_toArray, List.set_cons_zero, List.set_cons_succ]
     refine zLight (i := 14) rfl (by kernel_rfl) (by kernel_rfl) (by kernel_rfl) (by kernel_rfl) (fun _ _ _ h => h) rfl (fun w' => exIndex rfl rfl (indexRowS blk off d.size cap (q) (by omega) w')) (fun _ => SZ.out) ?_
     simp only [Act.put, List.setIfInBounds_toArray, List.set_cons_zero, List.set_cons_succ]
     refine wpAnyZ_all (rs := [15]) (by kernel_rfl) (by simp) ?_
     intro i hi
     simp only [List.mem_cons, List.not_mem_nil, or_false] at hi
     subst hi
     refine wpOp_of rfl rfl (wp_store_midN (b := blk) (o := off + (q) * 9) (cs := encR dk[q - 1]!) rfl rfl (swk_there SZ.out R.out (by omega) dk[q - 1]! (i := q) (by omega)) infoRow (all_oneCell_toArray (encR_one _)) ?_)
     refine ⟨noZ (by kernel_rfl), ?_⟩
     obtain ⟨w8, e8⟩ : ∃ w8, w8 = wz.setCells blk (off + (q) * 9) (encR dk[q - 1]!) := ⟨_, rfl⟩
     rw [← e8]
     have E8 := Lib.hid e8
     clear e8
     refine zLight (i := 16) rfl (by kernel_rfl) (by kernel_rfl) (by kernel_rfl) (by kernel_rfl) (fun _ _ _ h => h) rfl (fun w' => exIndex rfl rfl (indexRowS blk off d.size cap (q - 1) (by omega) w')) (noZ (by kernel_rfl)) ?_
     simp only [Act.put, List.setIfInBounds_toArray, List.set_cons_zero, List.set_cons_succ]
     refine wpAnyZ_all (rs := [17]) (by kernel_rfl) (by simp) ?_
     intro i hi
     simp only [List.mem_cons, List.not_mem_nil, or_false] at hi
     subst hi
     have TZ : Hid (w8.there blk (off + (q - 1) * 9) (encR dk[q]!).toArray.size) := by rw [E8.out]; exact World.there_setCells (swk_there SZ.out R.out (by omega) dk[q]! (i := q - 1) (by omega)) _ _ _
     refine wpOp_of rfl rfl (wp_store_midN (b := blk) (o := off + (q - 1) * 9) (cs := encR dk[q]!) rfl rfl (TZ.out) infoRow (all_oneCell_toArray (encR_one _)) ?_)
     refine ⟨noZ (by kernel_rfl), ?_⟩
     refine wpAnyZ_done (by kernel_rfl) ?_ _
     have SW : Hid (SWK encR 9 w0 blk off (swp dk (q) (q - 1)) (w8.setCells blk (off + (q - 1) * 9) (encR dk[q]!))) := by rw [E8.out]; exact SZ.out.swap encR_len R.out.hblk (q) (q - 1) (by omega) (by omega)
     clear SZ TZ E8
     generalize (w8.setCells blk (off + (q - 1) * 9) (encR dk[q]!)) = w9 at SW ⊢
     go_wp2_with fail
     rw [show ((q : Nat) : Int) - 1 = ((qn : Nat) : Int) by have := HQN.out; omega]
     go_roundw
     case rel => exact ⟨qn, swp dk q (q - 1), rfl, by omega, by omega, by rw [Hid, size_swp]; exact HDk.out, by rw [HQN.out]; exact HU2.out, SW.out⟩
     case measure => simp [intOf]; omega
    ·have LQ : q ≤ i := by omega
     have hqi : Hid (q = i) := by rw [Hid]; omega
     have hq : Hid (FiF k (atA d) (atA dk) a b ∧ SrF k (atA dk) a b) := by
      have := ins_back (k := k) (D := atA d) (D' := atA dk) (i := i) A.out (by omega) (by omega) (fun x h3 h4 => LO.out x h3 h4) (fun x h3 h4 => HI.out x h3 h4) (fun x => by rw [HU.out, hqi.out]; rfl)
      rw [← H2.out] at this
      exact this
     have hz0 : ¬ ((i : Nat) : Int) < ((q : Nat) : Int) := by omega
     go_wp2_with fail
     (try simp only [Exit.inBlock, Exit.then]); refine bodyPost_ret (results_none rfl _ _ _) rfl ?_
     exact ⟨rfl, dk, HDk.out, hq.out, S1.out⟩
end Go.Proofs.YtihggkmjalofiaaGreatDoor
