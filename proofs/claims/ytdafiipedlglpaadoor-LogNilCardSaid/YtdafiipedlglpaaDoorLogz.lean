/- Texts of general use, one behind another. -/
import Derived.Test.YtdafiipedlglpaaDoorLogw
import Derived.Test.YtdafiipedlglpaaDoorLogs
import Derived.Test.YtdafiipedlglpaaDoorLists
import Derived.Test.YtdafiipedlglpaaDoorPcds

/- The document's log: how many are sure, and what is appended: walked. -/
namespace Go.Proofs.YtdafiipedlglpaaDoor
open Go.RowKit

end Go.Proofs.YtdafiipedlglpaaDoor

/- The chapter's example of a log: walked. -/
namespace Go.Proofs.YtdafiipedlglpaaDoor
open Go.RowKit

def w30o : OpV := (1, vid0, vid0, ByteArray.empty)
def w30a : PatV := ((1, 1), [], [w30o])
def w30b : PatV := ((2, 1), [], [w30o])
theorem w30_ok : patB w30a = true ∧ patB w30b = true := ⟨by kernel_rfl, by kernel_rfl⟩
theorem w30_n : (patBytes w30a).length = 4 ∧ (patBytes w30b).length = 4 := ⟨by kernel_rfl, by kernel_rfl⟩
theorem w30_fl : flen w30a = 9 ∧ flen w30b = 9 := by
  unfold flen
  rw [frameB_len, frameB_len, w30_n.1, w30_n.2]
  exact ⟨by kernel_rfl, by kernel_rfl⟩
theorem w30_len : (frameB (patBytes w30a)).length = 9 ∧ (frameB (patBytes w30b)).length = 9 := w30_fl
theorem w30_read : readL ((frameB (patBytes w30a) ++ frameB (patBytes w30b)).take 12) = [(w30a, 9)] := by
  have e1 : (frameB (patBytes w30a) ++ frameB (patBytes w30b)).take 12 = framesB [w30a] ++ (frameB (patBytes w30b)).take 3 := by
    rw [List.take_append, w30_len.1, List.take_of_length_le (by rw [w30_len.1]; omega)]
    unfold framesB
    simp
  rw [e1, readL_frames [w30a] _ (fun p hp => by rw [List.mem_singleton.1 hp]; exact w30_ok.1), readL_stop (.inl (next_cut (by rw [w30_n.2]; omega) (by rw [w30_len.2]; omega)))]
  unfold withLen
  rw [List.map_cons, w30_fl.1]
  rfl
theorem w30_ops (w : World) : OpsAt (w.alloc (.cells (encO w30o).toArray 45)) (some ⟨w.heap.size, 0, none⟩) 1 [w30o] := by
  have := ops_new w [w30o] (by simp [OpV.ok, w30o, maxLen])
  simpa using this
theorem pids_no (w : World) : PidsAt w none 0 [] := ⟨rfl, ⟨rfl, fun h => absurd h (by decide)⟩⟩
theorem w30_patA (w : World) : PatAt (w.alloc (.cells (encO w30o).toArray 45)) (patC (1, 1) none 0 0 (some ⟨w.heap.size, 0, none⟩) 1 1) w30a :=
  ⟨⟨none, 0, some ⟨w.heap.size, 0, none⟩, 1, rfl, pids_no _, w30_ops w⟩, by decide, by decide⟩
theorem w30_patB (w : World) : PatAt (w.alloc (.cells (encO w30o).toArray 45)) (patC (2, 1) none 0 0 (some ⟨w.heap.size, 0, none⟩) 1 1) w30b :=
  ⟨⟨none, 0, some ⟨w.heap.size, 0, none⟩, 1, rfl, pids_no _, w30_ops w⟩, by decide, by decide⟩
theorem buildA30 (b : Nat) (w : World) : (Instr.build 28 #[(0, .agg #[.int .u8 1, .int .u16 1]), (2, .slice (some ⟨b, 0, none⟩) 1 1)]).run Tryd.prog w = .ok (.agg (patC (1, 1) none 0 0 (some ⟨b, 0, none⟩) 1 1).toArray) w := by kernel_rfl
theorem buildB30 (b : Nat) (w : World) : (Instr.build 28 #[(0, .agg #[.int .u8 2, .int .u16 1]), (2, .slice (some ⟨b, 0, none⟩) 1 1)]).run Tryd.prog w = .ok (.agg (patC (2, 1) none 0 0 (some ⟨b, 0, none⟩) 1 1).toArray) w := by kernel_rfl
theorem buildO30 (w : World) : (Instr.build 45 #[(0, .int .u8 1)]).run Tryd.prog w = .ok (.agg (encO w30o).toArray) w := by kernel_rfl
theorem buildPA30 (w : World) : (Instr.build 24 #[(0, .int .u8 1), (1, .int .u16 1)]).run Tryd.prog w = .ok (.agg #[.int .u8 1, .int .u16 1]) w := by kernel_rfl
theorem buildPB30 (w : World) : (Instr.build 24 #[(0, .int .u8 2), (1, .int .u16 1)]).run Tryd.prog w = .ok (.agg #[.int .u8 2, .int .u16 1]) w := by kernel_rfl
set_option maxRecDepth 100000 in
set_option maxHeartbeats 4000000 in
theorem works30 (w : World) (hFo : FourOk w) : Calls Tryd.prog 5 #[] w (RetB w (.bool true)) := by
  have F0 := Lib.hid hFo
  clear hFo
  go_enter Tryd.func5, Tryd.ntmps5
  go_wp2_with fail
  refine (diskNew_any _).mono ?_
  rintro e w1 ⟨rfl, b1, D1⟩
  obtain ⟨d, hd⟩ : ∃ d, d = w.heap.size := ⟨_, rfl⟩
  rw [← hd] at D1 ⊢
  have hF1 : Hid (∀ k, k = d → w.heap.size ≤ k) := fun k e => by omega
  replace hd := Lib.hid hd
  have B1 := Lib.hid b1
  have F1 := Lib.hid (four_ext F0.out b1)
  have HO := Lib.hid (logOpen_any D1 (by show 0 ≤ 900000; omega) F1.out)
  clear b1 D1 F1
  go_wp2_with fail
  refine HO.out.mono ?_
  rintro e w2 ⟨lb, v0, E, G, rfl, kp, LA, OG, hE, hG⟩
  rw [readL_nil] at LA OG
  obtain ⟨A0, c0, rfl, -⟩ := OG.slice
  have B2 : Hid (Below w.heap.size w w2) := B1.out.trans (kp.below (fun k e => hF1.out k e) B1.out.size)
  have hF2 : Hid (∀ k, E k → w.heap.size ≤ k) := fun k e => (hE k e).elim (hF1.out k) (fun h => Nat.le_trans B1.out.size h)
  have L2 : Hid (LogAt w2 E lb d [] [] 0) := LA
  have hF2' := hF2
  clear kp LA OG hE hG hF1 B1 HO
  clear hF2'
  dsimp only
  have P1 := Lib.hid (w30_patA w2)
  have KO : Hid (Below w2.heap.size w2 (w2.alloc (.cells (encO w30o).toArray 45))) := below_new _ _
  go_upto_region 4 with (first
    | (refine wpList_built (buildPA30 _) (by rfl) ?_)
    | (refine wpList_built (buildO30 _) (by rfl) ?_)
    | (refine wpList_lit1 opSl (cs := encO w30o) rfl (by omega) (by rfl) ?_)
    | (refine wpList_built (buildA30 _ _) (by rfl) ?_))
  generalize (w2.alloc (.cells (encO w30o).toArray 45)) = w2a at *
  have L2a := Lib.hid (L2.out.ext KO.out)
  have B2a := Lib.hid (B2.out.trans (KO.out.mono B2.out.size))
  have F2a := Lib.hid (four_ext F0.out B2a.out)
  have HA := Lib.hid (logAppend_any L2a.out (by show 0 ≤ 900000; omega) (by show 0 ≤ 1000; omega) w30a _ P1.out F2a.out)
  clear L2 B2 KO P1 F2a
  go_wp2_with fail
  refine HA.out.mono ?_
  rintro e w3 ⟨h1, -⟩
  obtain ⟨rfl, kp, E3, LA, hE⟩ := h1 w30_ok.1
  have B3 : Hid (Below w.heap.size w w3) := B2a.out.trans (kp.below (fun k e => hF2.out k e) B2a.out.size)
  have hF3 : Hid (∀ k, E3 k → w.heap.size ≤ k) := fun k e => (hE k e).elim (hF2.out k) (fun h => Nat.le_trans B2a.out.size h)
  have L3 : Hid (LogAt w3 E3 lb d (frameB (patBytes w30a)) [9] 0) := by
    have h := LA
    rw [w30_fl.1] at h
    exact h
  clear kp LA hE h1 HA B2a hF2 L2a
  have HY := Lib.hid (logSync_any L3.out)
  go_wp2_with fail
  refine HY.out.mono ?_
  rintro e w4 ⟨rfl, kp, E4, LA, hE⟩
  have B4 : Hid (Below w.heap.size w w4) := B3.out.trans (kp.below (fun k e => hF3.out k e) B3.out.size)
  have hF4 : Hid (∀ k, E4 k → w.heap.size ≤ k) := fun k e => (hE k e).elim (hF3.out k) (fun h => Nat.le_trans B3.out.size h)
  have L4 : Hid (LogAt w4 E4 lb d (frameB (patBytes w30a)) [9] 9) := by
    have h := LA
    rw [w30_len.1] at h
    exact h
  clear kp LA hE HY B3 hF3 L3
  have P2 := Lib.hid (w30_patB w4)
  have KO : Hid (Below w4.heap.size w4 (w4.alloc (.cells (encO w30o).toArray 45))) := below_new _ _
  go_upto_region 6 with (first
    | (refine wpList_built (buildPB30 _) (by rfl) ?_)
    | (refine wpList_built (buildO30 _) (by rfl) ?_)
    | (refine wpList_lit1 opSl (cs := encO w30o) rfl (by omega) (by rfl) ?_)
    | (refine wpList_built (buildB30 _ _) (by rfl) ?_))
  generalize (w4.alloc (.cells (encO w30o).toArray 45)) = w4a at *
  have L4a := Lib.hid (L4.out.ext KO.out)
  have B4a := Lib.hid (B4.out.trans (KO.out.mono B4.out.size))
  have F4a := Lib.hid (four_ext F0.out B4a.out)
  have HA := Lib.hid (logAppend_any L4a.out (by rw [w30_len.1]; omega) (by show 1 ≤ 1000; omega) w30b _ P2.out F4a.out)
  clear L4 B4 KO P2 F4a
  go_wp2_with fail
  refine HA.out.mono ?_
  rintro e w5 ⟨h1, -⟩
  obtain ⟨rfl, kp, E5, LA, hE⟩ := h1 w30_ok.2
  have B5 : Hid (Below w.heap.size w w5) := B4a.out.trans (kp.below (fun k e => hF4.out k e) B4a.out.size)
  have hF5 : Hid (∀ k, E5 k → w.heap.size ≤ k) := fun k e => (hE k e).elim (hF4.out k) (fun h => Nat.le_trans B4a.out.size h)
  have L5 : Hid (LogAt w5 E5 lb d (frameB (patBytes w30a) ++ frameB (patBytes w30b)) [9, 18] 9) := by
    have h := LA
    rw [w30_len.1, w30_fl.2] at h
    exact h
  clear kp LA hE h1 HA B4a hF4 L4a
  obtain ⟨X, hX⟩ : ∃ X, X = frameB (patBytes w30a) ++ frameB (patBytes w30b) := ⟨_, rfl⟩
  rw [← hX] at L5
  have hXl : Hid (X.length = 18) := by rw [Hid, hX, List.length_append, w30_len.1, w30_len.2]
  have hXr : Hid (readL (X.take 12) = [(w30a, 9)]) := by rw [Hid, hX]; exact w30_read
  clear hX
  have HL : Hid (Calls Tryd.prog 9 #[.pointer (some ⟨lb, 0, none⟩)] w5 (Ret w5 (.int .i64 2))) := logLen_any L5.out
  have HS : Hid (Calls Tryd.prog 10 #[.pointer (some ⟨lb, 0, none⟩)] w5 (RetB w5 (.int .i64 1))) := logSure_any L5.out (by decide) (by rw [hXl.out]; omega) (by show 2 ≤ 1000; omega)
  go_wp2_with fail
  refine HL.out.mono ?_
  rintro e _ ⟨rfl, rfl⟩
  go_wp2_with fail
  refine HS.out.mono ?_
  rintro e w6 ⟨rfl, b6⟩
  have B6 := Lib.hid (B5.out.trans (b6.mono B5.out.size))
  obtain ⟨D, hD, hDE⟩ := (L5.out.ext b6).disk
  have hF6 : Hid (∀ k, D k → w.heap.size ≤ k) := fun k e => hF5.out k (hDE k e)
  have HC := Lib.hid (diskCrash_any hD 3 (by omega) (by omega) (by rw [hXl.out]; omega))
  have hk : keepN X.length 9 3 = 12 := by rw [hXl.out]; rfl
  rw [hk] at HC
  clear HL HS b6 L5 B5 hF5 hD hDE hk
  go_wp2_with fail
  refine HC.out.mono ?_
  rintro e w7 ⟨rfl, kp, D7, D7h, hE⟩
  have B7 : Hid (Below w.heap.size w w7) := B6.out.trans (kp.below (fun k e => hF6.out k e) B6.out.size)
  have hF7 : Hid (∀ k, D7 k → w.heap.size ≤ k) := fun k e => (hE k e).elim (hF6.out k) (fun h => Nat.le_trans B6.out.size h)
  have F7 := Lib.hid (four_ext F0.out B7.out)
  have HO := Lib.hid (logOpen_any D7h (by rw [List.length_take, hXl.out]; omega) F7.out)
  clear kp D7h hE HC B6 hF6 F7
  go_wp2_with fail
  refine HO.out.mono ?_
  rintro e w8 ⟨l2, v8, E8, G8, rfl, kp, LA, OG, hE, hG⟩
  rw [hXr.out] at LA OG
  obtain ⟨A8, c8, rfl, -⟩ := OG.slice
  have B8 : Hid (Below w.heap.size w w8) := B7.out.trans (kp.below (fun k e => hF7.out k e) B7.out.size)
  have L8 : Hid (LogAt w8 E8 l2 d ((X.take 12).take 9) [9] 9) := LA
  obtain ⟨D8, hD8, -⟩ := LA.disk
  have HL : Hid (Calls Tryd.prog 9 #[.pointer (some ⟨l2, 0, none⟩)] w8 (Ret w8 (.int .i64 1))) := logLen_any L8.out
  have HK := Lib.hid (diskLen_any hD8)
  have h9 : ((X.take 12).take (sumLen [(w30a, 9)])).length = 9 := by rw [List.length_take, List.length_take, hXl.out]; rfl
  rw [h9] at HK
  obtain ⟨b, o, x, r, hA8, -, hx, hp, hr⟩ := OG.pats.at_ (k := 0) (by show 0 < 1; omega)
  obtain rfl : x = w30a := by simpa using hx.symm
  obtain ⟨⟨Ap, cp, Ap', cp', rfl, -, -⟩, -, -⟩ := hp
  subst hA8
  have y0 : w8.cell? ⟨b, o, none⟩ = some (.int .u8 1) := by simpa using hr 0 (.int .u8 1) rfl
  clear kp LA OG hE hG HO B7 hF7 hXl hXr hD8 h9 hr hx L8 F0
  dsimp only [List.length_cons, List.length_nil, List.map_cons, List.map_nil]
  go_wp2_with fail
  refine HL.out.mono ?_
  rintro e _ ⟨rfl, rfl⟩
  go_wp2_with fail
  refine HK.out.mono ?_
  rintro e _ ⟨rfl, rfl⟩
  clear HL HK
  go_wp2
  go_ret
  exact ⟨rfl, B8.out⟩
end Go.Proofs.YtdafiipedlglpaaDoor

/- What the laws of the log share; any bytes behind any log are read as the document says: walked. -/
namespace Go.Proofs.YtdafiipedlglpaaDoor
open Go.RowKit

end Go.Proofs.YtdafiipedlglpaaDoor
