/- slices.SortStableFunc at a census' rows: merging by halves: behind the search: walked. -/
import Derived.Test.YtihggkmjalofiaaGreatDoorStae
import Derived.Deep.CutRange
namespace Go.Proofs.YtihggkmjalofiaaGreatDoor
open Go.RowKit Go.Sort Go.Lib Go.Shelf

def spineC : Nat → Code → Code
 | n + 1, .seq _ c => spineC n c
 | _, c => c
set_option maxRecDepth 100000 in
set_option maxHeartbeats 32000000 in
/-- behind the search: turning round, and both halves -/
theorem symTail_any (k : RowR → Int) (g : Nat) (cb : Array Value) (blk off cap : Nat) (d0 : Array RowR) (w0 : World) (hR : RowK encR 9 w0 blk off d0) (N : Nat) (ih0 : ∀ (a m b : Nat) (d : Array RowR) (w : World), b - a < N → a < m → m < b → b ≤ d.size → d.size = d0.size → SrF k (atA d) a m → SrF k (atA d) m b → SWK encR 9 w0 blk off d w → Calls Tryz.prog 291 #[.slice (some ⟨blk, off, none⟩) d.size cap, .int .i64 (a : Nat), .int .i64 (m : Nat), .int .i64 (b : Nat), .func (.func g) #[] cb] w fun e w' => e = .returned (.tuple #[]) ∧ ∃ d' : Array RowR, d'.size = d.size ∧ (FiF k (atA d) (atA d') a b ∧ SrF k (atA d') a b) ∧ SWK encR 9 w0 blk off d' w') (a m b : Nat) (d : Array RowR) (wr : World) (ham : a < m) (hmb : m < b) (hb : b ≤ d.size) (hsz2 : d.size ≤ 1000) (hds : d.size = d0.size) (hA : SrF k (atA d) a m) (hB : SrF k (atA d) m b) (hS : SWK encR 9 w0 blk off d wr) (hN : b - a < N + 1)
  (mid i q : Nat) (hmm : a < mid ∧ mid < b) (hai : a ≤ i ∧ i ≤ m ∧ i ≤ mid) (hq2 : m ≤ q ∧ q ≤ b ∧ i + (q - m) = mid) (hLT : i = m ∨ q = m ∨ k (atA d i) < k (atA d (q - 1))) (hGE : i = a ∨ q = b ∨ k (atA d q) ≤ k (atA d (i - 1)))
  (Q : Exit → Act → World → Prop) (hQ : ∀ (tm : Array Value) w', (∃ d' : Array RowR, d'.size = d.size ∧ (FiF k (atA d) (atA d') a b ∧ SrF k (atA d') a b) ∧ SWK encR 9 w0 blk off d' w') → Q .normal { tmps := tm, defers := [] } w') (u5 u6 u7 u8 u9 u10 u11 u12 u13 u14 u15 u16 u17 u19 u21 u22 u23 u25 u26 u27 u28 u29 u30 u31 u32 u33 u34 u35 u36 u37 u38 u39 u40 u41 u42 u43 u44 u45 u46 u47 u48 u49 u50 u51 u52 u53 u54 u55 u56 u57 u58 u59 u60 u61 u62 u63 u64 u65 u66 u67 u68 u69 u70 u71 u72 u73 u74 u75 u76 u77 u78 u79 u80 u81 u82 u83 u84 u85 u86 u87 u88 u89 u90 u91 u92 u93 u94 u95 u96 u97 u98 u99 u100 u101 u102 u103 u104 u105 u106 u107 u108 u109 u110 u111 u112 u113 u114 u115 u116 u117 u118 u119 u120 u121 u122 u123 u124 u125 u126 u127 u128 u129 u130 u131 u132 u133 u134 u135 u136 u137 u138 u139 u140 u141 u142 u143 u144 u145 u146 u147 u148 u149 u150 u151 u152 u153 u154 u155 u156 u157 u158 u159 u160 u161 u162 u163 u164 u165 u166 u167 u168 u169 u170 u171 u172 u173 u174 u175 u176 u177 u178 u179 u180 u181 u182 u183 u184 u185 u186 u187 u188 u189 u190 u191 u192 u193 u194 u195 u196 u197 u198 u199 u200 u201 u202 u203 u204 u205 u206 u207 u208 u209 u210 u211 u212 u213 u214 u215 u216 u217 u218 u219 : Value) :
  (spineC 9 ((Tryz.f291).body.getD .skip)).wp Tryz.prog Q { tmps := List.toArray (.slice (some ⟨blk, off, none⟩) d.size cap :: .int .i64 ((a : Nat) : Int) :: .int .i64 ((m : Nat) : Int) :: .int .i64 ((b : Nat) : Int) :: .func (.func g) #[] cb :: u5 :: u6 :: u7 :: u8 :: u9 :: u10 :: u11 :: u12 :: u13 :: u14 :: u15 :: u16 :: u17 :: .int .i64 ((mid : Nat) : Int) :: u19 :: .int .i64 ((i : Nat) : Int) :: u21 :: u22 :: u23 :: .int .i64 ((q : Nat) : Int) :: u25 :: u26 :: u27 :: u28 :: u29 :: u30 :: u31 :: u32 :: u33 :: u34 :: u35 :: u36 :: u37 :: u38 :: u39 :: u40 :: u41 :: u42 :: u43 :: u44 :: u45 :: u46 :: u47 :: u48 :: u49 :: u50 :: u51 :: u52 :: u53 :: u54 :: u55 :: u56 :: u57 :: u58 :: u59 :: u60 :: u61 :: u62 :: u63 :: u64 :: u65 :: u66 :: u67 :: u68 :: u69 :: u70 :: u71 :: u72 :: u73 :: u74 :: u75 :: u76 :: u77 :: u78 :: u79 :: u80 :: u81 :: u82 :: u83 :: u84 :: u85 :: u86 :: u87 :: u88 :: u89 :: u90 :: u91 :: u92 :: u93 :: u94 :: u95 :: u96 :: u97 :: u98 :: u99 :: u100 :: u101 :: u102 :: u103 :: u104 :: u105 :: u106 :: u107 :: u108 :: u109 :: u110 :: u111 :: u112 :: u113 :: u114 :: u115 :: u116 :: u117 :: u118 :: u119 :: u120 :: u121 :: u122 :: u123 :: u124 :: u125 :: u126 :: u127 :: u128 :: u129 :: u130 :: u131 :: u132 :: u133 :: u134 :: u135 :: u136 :: u137 :: u138 :: u139 :: u140 :: u141 :: u142 :: u143 :: u144 :: u145 :: u146 :: u147 :: u148 :: u149 :: u150 :: u151 :: u152 :: u153 :: u154 :: u155 :: u156 :: u157 :: u158 :: u159 :: u160 :: u161 :: u162 :: u163 :: u164 :: u165 :: u166 :: u167 :: u168 :: u169 :: u170 :: u171 :: u172 :: u173 :: u174 :: u175 :: u176 :: u177 :: u178 :: u179 :: u180 :: u181 :: u182 :: u183 :: u184 :: u185 :: u186 :: u187 :: u188 :: u189 :: u190 :: u191 :: u192 :: u193 :: u194 :: u195 :: u196 :: u197 :: u198 :: u199 :: u200 :: u201 :: u202 :: u203 :: u204 :: u205 :: u206 :: u207 :: u208 :: u209 :: u210 :: u211 :: u212 :: u213 :: u214 :: u215 :: u216 :: u217 :: u218 :: u219 :: []), defers := [] } wr := by
 have R := Lib.hid hR
 have IH := Lib.hid ih0
 have A := Lib.hid hA
 have B := Lib.hid hB
 have S1 := Lib.hid hS
 have HD := Lib.hid hds
 have HLT := Lib.hid hLT
 have HGE := Lib.hid hGE
 have HQF := Lib.hid hQ
 have hq4 := hq2.2.2
 have hiq : Hid (i + (q - m) = mid) := hq4
 have hq5 : m ≤ q ∧ q ≤ b ∧ i + q ≤ mid + m ∧ mid + m ≤ i + q := by omega
 clear ih0 hA hB hS hds hR hLT hGE hQ hq2 hq4
 change Code.wp _ (Code.seq (Code.seq _ _) _) _ _ _
 go_upto_region 39 with fail
 -- the rotation
 have HR := Lib.hid (fun (ha : i < m) (hb2 : m < q) => rot54_any g cb blk off cap i m q d0 d w0 wr R.out HD.out.symm S1.out ha hb2 (by omega) hsz2)
 go_cut [185] from 178 to 219 (fun tv wx => ∃ tb : Bool, tv = .bool tb ∧ Hid (tb = decide (i < m ∧ m < q)) ∧ wx = wr)
 case first =>
  by_cases h3 : i < m
  ·by_cases h4 : m < q
   ·have hz0 : ((i : Nat) : Int) < ((m : Nat) : Int) := by omega
    have hz1 : ((m : Nat) : Int) < ((q : Nat) : Int) := by omega
    go_wp2_with fail
    go_meet
    exact ⟨true, rfl, (decide_eq_true ⟨h3, h4⟩).symm, rfl⟩
   ·have hz0 : ((i : Nat) : Int) < ((m : Nat) : Int) := by omega
    have hz1 : ¬ ((m : Nat) : Int) < ((q : Nat) : Int) := by omega
    go_wp2_with fail
    go_meet
    exact ⟨false, rfl, (decide_eq_false fun e => h4 e.2).symm, rfl⟩
  ·have hz0 : ¬ ((i : Nat) : Int) < ((m : Nat) : Int) := by omega
   go_wp2_with fail
   go_meet
   exact ⟨false, rfl, (decide_eq_false fun e => h3 e.1).symm, rfl⟩
 case rest =>
 obtain ⟨tb, rfl, HTB, rfl⟩ := hcut
 go_upto_if 185 with fail
 go_cut [24] from 178 to 219 (fun ev wx => ev = .int .i64 ((q : Nat) : Int) ∧ ∃ d1 : Array RowR, d1.size = d.size ∧ atA d1 = rotF (atA d) i m q ∧ SWK encR 9 w0 blk off d1 wx)
 case first =>
  cases tb
  ·have HN := Lib.hid (of_decide_eq_false HTB.out.symm)
   clear HTB
   go_wp2_with fail
   go_meet
   refine ⟨rfl, d, rfl, ?_, S1.out⟩
   rcases Nat.lt_or_ge i m with h5 | h5
   ·have : q = m := by have := HN.out; omega
    rw [this]
    exact (rotF_none2 ..).symm
   ·have : i = m := by omega
    rw [this]
    exact (rotF_none1 ..).symm
  ·have HN := Lib.hid (of_decide_eq_true HTB.out.symm)
   clear HTB
   go_wp2_with fail
   refine (HR.out HN.out.1 HN.out.2).mono ?_
   rintro e w2 ⟨rfl, d2, hd2, e2, s2⟩
   have HQ3 := Lib.hid (And.intro hd2 (And.intro e2 s2))
   clear hd2 e2 s2
   go_wp2_with fail
   go_meet
   exact ⟨rfl, d2, HQ3.out.1, HQ3.out.2.1, HQ3.out.2.2⟩
 case rest =>
  obtain ⟨rfl, d1, hd1, e1, s1⟩ := hcut
  have hd10 : d1.size = d0.size := hd1.trans HD.out
  have L1 : Hid (SrF k (atA d1) a i ∧ SrF k (atA d1) i mid ∧ SrF k (atA d1) mid q ∧ SrF k (atA d1) q b) := by
   rw [e1]
   refine ⟨?_, ?_, ?_, ?_⟩
   ·exact (A.out.sub (Nat.le_refl _) (by omega)).same fun x _ h4 => rotF_out (by omega) hq5.1 (.inl h4)
   ·intro x y h4 h5 h6
    have f : ∀ z, i ≤ z → z < mid → rotF (atA d) i m q z = atA d (z - i + m) := fun z hz hz2 => by unfold rotF; rw [if_pos (by omega)]
    rw [f x h4 (by omega), f y (by omega) h6]
    exact B.out _ _ (by omega) (by omega) (by omega)
   ·intro x y h4 h5 h6
    have f : ∀ z, mid ≤ z → z < q → rotF (atA d) i m q z = atA d (z - (q - m)) := fun z hz hz2 => by unfold rotF; rw [if_neg (by omega), if_pos (by omega)]
    rw [f x h4 (by omega), f y (by omega) h6]
    exact A.out _ _ (by omega) (by omega) (by omega)
   ·exact (B.out.sub (by omega) (Nat.le_refl _)).same fun x h4 _ => rotF_out (by omega) hq5.1 (.inr h4)
  have HS1 := Lib.hid s1
  have HE1 := Lib.hid e1
  have HD1 := Lib.hid hd1
  have HD10 := Lib.hid hd10
  clear s1 e1 hd1 hd10 HR S1
  have HI1 := Lib.hid (fun (ha : a < i) (hb2 : i < mid) => IH.out a i mid d1 wc (by omega) ha hb2 (by rw [HD1.out]; omega) HD10.out L1.out.1 L1.out.2.1 HS1.out)
  rw [HD1.out] at HI1
  go_upto_region 41 with fail
  go_cut [199] from 178 to 219 (fun tv wx => ∃ tb : Bool, tv = .bool tb ∧ Hid (tb = decide (a < i ∧ i < mid)) ∧ wx = wc)
  case first =>
   by_cases h3 : a < i
   ·by_cases h4 : i < mid
    ·have hz0 : ((a : Nat) : Int) < ((i : Nat) : Int) := by omega
     have hz1 : ((i : Nat) : Int) < ((mid : Nat) : Int) := by omega
     go_wp2_with fail
     go_meet
     exact ⟨true, rfl, (decide_eq_true ⟨h3, h4⟩).symm, rfl⟩
    ·have hz0 : ((a : Nat) : Int) < ((i : Nat) : Int) := by omega
     have hz1 : ¬ ((i : Nat) : Int) < ((mid : Nat) : Int) := by omega
     go_wp2_with fail
     go_meet
     exact ⟨false, rfl, (decide_eq_false fun e => h4 e.2).symm, rfl⟩
   ·have hz0 : ¬ ((a : Nat) : Int) < ((i : Nat) : Int) := by omega
    go_wp2_with fail
    go_meet
    exact ⟨false, rfl, (decide_eq_false fun e => h3 e.1).symm, rfl⟩
  case rest =>
  obtain ⟨tb, rfl, HTB, rfl⟩ := hcut
  go_upto_if 199 with fail
  go_cut [24] from 178 to 219 (fun ev wx => ev = .int .i64 ((q : Nat) : Int) ∧ ∃ d2 : Array RowR, d2.size = d.size ∧ (FiF k (atA d1) (atA d2) a mid ∧ SrF k (atA d2) a mid) ∧ SWK encR 9 w0 blk off d2 wx)
  case first =>
   cases tb
   ·have HN := Lib.hid (of_decide_eq_false HTB.out.symm)
    clear HTB
    go_wp2_with fail
    go_meet
    refine ⟨rfl, d1, HD1.out, ⟨FiF.refl, ?_⟩, HS1.out⟩
    rcases Nat.lt_or_ge a i with h5 | h5
    ·have : i = mid := by have := HN.out; omega
     rw [← this]
     exact L1.out.1
    ·have : i = a := by omega
     rw [← this]
     exact L1.out.2.1
   ·have HN := Lib.hid (of_decide_eq_true HTB.out.symm)
    clear HTB
    go_wp2_with fail
    refine (HI1.out HN.out.1 HN.out.2).mono ?_
    rintro e w2 ⟨rfl, d2, hd2, e2, s2⟩
    have HQ3 := Lib.hid (And.intro hd2 (And.intro e2 s2))
    clear hd2 e2 s2
    go_wp2_with fail
    go_meet
    exact ⟨rfl, d2, HQ3.out.1, HQ3.out.2.1, HQ3.out.2.2⟩
  case rest =>
   obtain ⟨rfl, d2, hd2, e2, s2⟩ := hcut
   have L2 : Hid (SrF k (atA d2) mid q ∧ SrF k (atA d2) q b) := ⟨L1.out.2.2.1.same fun x h4 _ => e2.1.out x (.inr h4), L1.out.2.2.2.same fun x h4 _ => e2.1.out x (.inr (by omega))⟩
   have HS2 := Lib.hid s2
   have HE2 := Lib.hid e2
   have HD2 := Lib.hid hd2
   clear s2 e2 hd2 HI1 HS1
   have HI2 := Lib.hid (fun (ha : mid < q) (hb2 : q < b) => IH.out mid q b d2 wc (by omega) ha hb2 (by rw [HD2.out]; omega) (HD2.out.trans HD.out) L2.out.1 L2.out.2 HS2.out)
   rw [HD2.out] at HI2
   have FIN : ∀ d3 : Array RowR, FiF k (atA d2) (atA d3) mid b → SrF k (atA d3) mid b → FiF k (atA d) (atA d3) a b ∧ SrF k (atA d3) a b := fun d3 f3 s3 => by
    have f1 := HE2.out.1
    rw [HE1.out] at f1
    exact sym_half A.out B.out (by omega) (by omega) hq5.1 hq5.2.1 hiq.out HLT.out HGE.out f1 HE2.out.2 f3 s3
   have FIN := Lib.hid FIN
   by_cases h3 : mid < q
   ·by_cases h4 : q < b
    ·have hz0 : ((mid : Nat) : Int) < ((q : Nat) : Int) := by omega
     have hz1 : ((q : Nat) : Int) < ((b : Nat) : Int) := by omega
     go_wp2_with fail
     refine (HI2.out h3 h4).mono ?_
     rintro e w2 ⟨rfl, d3, hd3, e3, s3⟩
     have HQ3 := Lib.hid (And.intro hd3 (And.intro e3 s3))
     clear hd3 e3 s3
     go_wp2_with fail
     exact HQF.out _ _ ⟨d3, HQ3.out.1, FIN.out d3 HQ3.out.2.1.1 HQ3.out.2.1.2, HQ3.out.2.2⟩
    ·have hz0 : ((mid : Nat) : Int) < ((q : Nat) : Int) := by omega
     have hz1 : ¬ ((q : Nat) : Int) < ((b : Nat) : Int) := by omega
     go_wp2_with fail
     obtain rfl : q = b := by omega
     exact HQF.out _ _ ⟨d2, HD2.out, FIN.out d2 FiF.refl L2.out.1, HS2.out⟩
   ·have hz0 : ¬ ((mid : Nat) : Int) < ((q : Nat) : Int) := by omega
    go_wp2_with fail
    obtain rfl : q = mid := by omega
    exact HQF.out _ _ ⟨d2, HD2.out, FIN.out d2 FiF.refl L2.out.2, HS2.out⟩
end Go.Proofs.YtihggkmjalofiaaGreatDoor
