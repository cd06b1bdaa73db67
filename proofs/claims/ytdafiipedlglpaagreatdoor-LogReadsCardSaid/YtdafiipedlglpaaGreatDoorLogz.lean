/- Texts of general use, one behind another. -/
import Derived.Test.YtdafiipedlglpaaGreatDoorLogw
import Derived.Test.YtdafiipedlglpaaGreatDoorLogs
import Derived.Test.YtdafiipedlglpaaGreatDoorLists
import Derived.Test.YtdafiipedlglpaaGreatDoorPcds

/- The document's log: how many are sure, and what is appended: walked. -/
namespace Go.Proofs.YtdafiipedlglpaaGreatDoor
open Go.RowKit

theorem blk_rngL {w : World} {g : Nat} {t : TypeId} {cs : List Value} (h : Blk w g t cs.toArray) : w.rangeAt g 0 cs := by
  intro j u hj
  rw [Nat.zero_add, h.cell j]
  simpa using hj
theorem blk_rng30 {w : World} {g : Nat} {l : List UInt8} {s : Nat} (h : Blk w g 55 (rdV l s)) : w.rangeAt g 0 [.string (bytesOf l), .int .i64 (s : Int)] := blk_rngL (cs := [.string (bytesOf l), .int .i64 (s : Int)]) h
theorem filter_snoc30 {l : List Nat} {k e s : Nat} (h : l[k]? = some e) : ((l.take (k + 1)).filter fun e => decide (e ≤ s)).length = ((l.take k).filter fun e => decide (e ≤ s)).length + if e ≤ s then 1 else 0 := by
  rw [List.take_add_one, h, Option.toList_some, List.filter_append, List.length_append]
  by_cases h2 : e ≤ s
  · rw [if_pos h2, List.filter_cons_of_pos (by simpa using h2)]; rfl
  · rw [if_neg h2, List.filter_cons_of_neg (by simpa using h2)]; rfl
set_option maxRecDepth 100000 in
set_option maxHeartbeats 8000000 in
theorem rsure30_any (l : List UInt8) (s : Nat) (w : World) (hl : l.length ≤ 900000) (_hs : s ≤ 10000000) : Calls Tryz.prog 42 #[.agg (rdV l s)] w (RetB w (.int .i64 ((sureN (readL l) s : Nat) : Int))) := by
  have K1 : Hid (Blk (w.alloc (.cells (rdV l s) 55)) w.heap.size 55 (rdV l s)) := Blk.new _ _ _
  have B0 : Hid (Below w.heap.size w (w.alloc (.cells (rdV l s) 55))) := below_new _ _
  obtain ⟨R, hR⟩ : ∃ R, R = readL l := ⟨_, rfl⟩
  obtain ⟨ps, hps1, hps2, hps3, hps4⟩ := readL_told l
  rw [← hR] at hps3
  have hRl : Hid (R.length ≤ 900000) := by
    have h1 := withLen_le ps
    rw [← hps1, ← hR] at h1
    rw [Hid]; omega
  clear hps1 hps2 hps3 hps4
  rw [← hR]
  replace hR := Lib.hid hR
  go_enter Tryz.func42, Tryz.ntmps42
  go_upto_region 1 with fail
  generalize (w.alloc (.cells (rdV l s) 55)) = w2 at *
  obtain ⟨g1, hg1⟩ : ∃ g, g = w.heap.size := ⟨_, rfl⟩
  rw [← hg1] at K1 ⊢
  replace hg1 := Lib.hid hg1
  have y0 : w2.cell? ⟨g1, 0, none⟩ = some (.string (bytesOf l)) := K1.out.cell 0
  have CB := Lib.hid (conv_bytes w2 (bytesOf l))
  rw [bytesOf_size] at CB
  have BA := Lib.hid (conv_at30 w2 l (by omega))
  have bn := Lib.hid (conv_below w2 (bytesOf l))
  have K13 := Lib.hid (K1.out.ext bn.out)
  have B3 := Lib.hid (B0.out.trans (bn.out.mono B0.out.size))
  clear bn K1 B0
  generalize (Lib.bytesWorld w2 5 (bytesOf l)) = w3 at *
  generalize grownCap w2 l.length 0 5 = c0 at *
  generalize w2.heap.size = gt at *
  have HR := Lib.hid (rread_any l w3 _ _ _ BA.out hl)
  generalize bytesOf l = X at *
  go_wp2_with (refine wpList_convW rfl CB.out ?_)
  refine HR.out.mono ?_
  rintro e w4 ⟨v1, v2, rfl, b4, o1, o2⟩
  rw [← hR.out] at o1 o2
  have K14 := Lib.hid (K13.out.ext b4)
  have B4 := Lib.hid (B3.out.trans (b4.mono B3.out.size))
  obtain ⟨Ae, ce, rfl, _, SE⟩ := Sl.of_own o2
  have SE := Lib.hid SE
  obtain ⟨nR, hnR⟩ : ∃ nR, nR = R.length := ⟨_, rfl⟩
  have hEl : Hid ((endsL R).length = nR) := by rw [Hid, endsL_len, hnR]
  have hnRl : nR ≤ 900000 := by rw [hnR]; exact hRl.out
  have hSN : Hid (sureN R s = (((endsL R).take nR).filter fun e => decide (e ≤ s)).length) := by
    rw [Hid, List.take_of_length_le (by rw [hEl.out]; exact Nat.le_refl _)]; rfl
  rw [← hnR] at SE ⊢
  generalize endsL R = E at *
  clear b4 o1 o2 HR CB BA K13 B3 y0 hnR hRl
  have BS : Hid (Below w4.heap.size w4 w4) := Below.refl _ _
  go_wp2_with fail
  go_loopw [5, 6] (fun nv iv wr => ∃ k N : Nat, k ≤ nR ∧ iv = .int .i64 (k : Int) ∧ nv = .int .i64 (N : Int) ∧ Hid (N = ((E.take k).filter fun e => decide (e ≤ s)).length) ∧ Hid (Below w4.heap.size w4 wr)) (fun _ iv _ => nR - (intOf iv).toNat)
  case atStart => exact ⟨0, 0, Nat.zero_le _, rfl, rfl, rfl, BS.out⟩
  case round =>
    clear BS
    obtain ⟨k, N, hk, rfl, rfl, HN, BS⟩ := hrel
    have ys : wr.cell? ⟨g1, 1, none⟩ = some (.int .i64 (s : Int)) := (K14.out.ext BS.out).cell 1
    have hk0 : (0 : Int) ≤ (k : Int) := by omega
    have hcl : N ≤ 900000 := by
      have := List.length_filter_le (fun e => decide (e ≤ s)) (E.take k)
      rw [List.length_take, ← HN.out] at this
      omega
    by_cases hlt : k < nR
    · have hlk : (k : Int) < (nR : Int) := by omega
      obtain ⟨b, o, rfl, hb, hc⟩ := (SE.out.below BS.out (Nat.le_refl _)).2 (by omega)
      obtain ⟨e, he⟩ : ∃ e, E[k]? = some e := ⟨_, List.getElem?_eq_getElem (by have := hEl.out; omega)⟩
      have y9 : wr.cell? ⟨b, o + k, none⟩ = some (.int .i64 (e : Int)) := by
        rw [hc k (by omega)]
        unfold encI
        rw [List.getElem?_map, he]; rfl
      have FS := Lib.hid (filter_snoc30 (s := s) he)
      rw [← HN.out] at FS
      clear he hb hc
      go_upto_region 6 with fail
      by_cases hes : e ≤ s
      · have hei : (e : Int) ≤ (s : Int) := by omega
        rw [if_pos hes] at FS
        replace hes := Lib.hid hes
        go_quiet (fail)
        go_wp2_with fail
        go_round
        case rel => exact ⟨k + 1, N + 1, by omega, by go_num, by go_num, FS.out.symm, BS.out.trans (below_drewN (Below.refl _ _) _ |>.mono BS.out.size)⟩
        case measure => simp [intOf]; omega
      · have hei : ¬ (e : Int) ≤ (s : Int) := by omega
        rw [if_neg hes, Nat.add_zero] at FS
        replace hes := Lib.hid hes
        go_quiet (fail)
        go_wp2_with fail
        go_round
        case rel => exact ⟨k + 1, N, by omega, by go_num, rfl, FS.out.symm, BS.out.trans (below_drewN (Below.refl _ _) _ |>.mono BS.out.size)⟩
        case measure => simp [intOf]; omega
    · have hlk : ¬ (k : Int) < (nR : Int) := by omega
      have hkn : k = nR := by omega
      subst hkn
      go_wp2_with fail
      go_ret
      exact ⟨by rw [hSN.out, ← HN.out]; rfl, B4.out.trans (BS.out.mono B4.out.size)⟩
set_option maxRecDepth 100000 in
set_option maxHeartbeats 8000000 in
theorem rappend30_any (l : List UInt8) (s : Nat) (p : PatV) (hpb : patB p = true) (w : World) (cs : List Value) (hp : PatAt w cs p) (hl : l.length ≤ 900000) : Calls Tryz.prog 31 #[.agg (rdV l s), .agg cs.toArray] w (RetB w (.agg (rdV (l ++ frameB (patBytes p)) s))) := by
  have hp0 := hp
  obtain ⟨⟨Ap, cp, Ap', cp', rfl, _, _⟩, _, _⟩ := hp0
  obtain ⟨cs, hcs⟩ : ∃ cs, cs = patC p.1 Ap p.2.1.length cp Ap' p.2.2.length cp' := ⟨_, rfl⟩
  have hi4 : Hid ((Tryz.prog.info? 64).map (·.size) = some cs.length) := by rw [Hid, hcs]; exact infoPat
  rw [← hcs] at hp ⊢
  clear hcs
  have K1 : Hid (Blk (((w.alloc (.cells (rdV l s) 55)).alloc (.cells cs.toArray 64)).alloc (.cells rdZ 55)) w.heap.size 55 (rdV l s)) := ((Blk.new _ _ _).alloc _).alloc _
  have K2 : Hid (Blk (((w.alloc (.cells (rdV l s) 55)).alloc (.cells cs.toArray 64)).alloc (.cells rdZ 55)) (w.heap.size + 1) 64 cs.toArray) := (Blk.newAt (by simp) _ _).alloc _
  have K3 : Hid (Blk (((w.alloc (.cells (rdV l s) 55)).alloc (.cells cs.toArray 64)).alloc (.cells rdZ 55)) (w.heap.size + 2) 55 rdZ) := Blk.newAt (by simp) _ _
  have B0 : Hid (Below w.heap.size w (((w.alloc (.cells (rdV l s) 55)).alloc (.cells cs.toArray 64)).alloc (.cells rdZ 55))) := (((Below.refl _ _).alloc (Nat.le_refl _) _).alloc (by simp) _).alloc (by simp; omega) _
  have P0 := Lib.hid (hp.ext B0.out)
  have hpl := patBytes_len hpb
  clear hp
  go_enter Tryz.func31, Tryz.ntmps31
  go_upto_region 1 with (refine wpList_alloced (allocRdk _) ?_)
  try rw [show ((w.alloc (.cells (rdV l s) 55)).alloc (.cells cs.toArray 64)).heap.size = w.heap.size + 2 from by simp]
  generalize (((w.alloc (.cells (rdV l s) 55)).alloc (.cells cs.toArray 64)).alloc (.cells rdZ 55)) = w2 at *
  obtain ⟨g3, hg3⟩ : ∃ g, g = w.heap.size + 2 := ⟨_, rfl⟩
  obtain ⟨g2, hg2⟩ : ∃ g, g = w.heap.size + 1 := ⟨_, rfl⟩
  obtain ⟨g1, hg1⟩ : ∃ g, g = w.heap.size := ⟨_, rfl⟩
  rw [← hg3] at K3 ⊢
  rw [← hg2] at K2 ⊢
  rw [← hg1] at K1 ⊢
  have hB : Hid (w.heap.size ≤ g3) := by rw [Hid, hg3]; omega
  replace hg1 := Lib.hid hg1
  replace hpb := Lib.hid hpb
  clear hg2 hg3
  have hcB : ∀ args u, (callFunc 108 args).run Tryz.prog u = .ok (.enter 108 args) u := enters_of Tryz.func108 (by kernel_rfl) rfl
  have hcF : ∀ args u, (callFunc 107 args).run Tryz.prog u = .ok (.enter 107 args) u := enters_of Tryz.func107 (by kernel_rfl) rfl
  have hcA : ∀ args u, (callFunc 43 args).run Tryz.prog u = .ok (.enter 43 args) u := enters_of Tryz.func43 (by kernel_rfl) rfl
  refine wp_region_Z (S := fun w' => Below w2.heap.size w2 w') (Z := [5]) mixedS ?_
  have B5 : Hid (Below w2.heap.size w2 w2.drew) := (Below.refl _ _).drew
  change wpAnyZ _ _ _ _ _ _ _ _ _ w2.drew
  generalize w2.drew = w3 at *
  simp only [List.size_toArray, List.length_cons, List.length_nil]
  refine zV (i := 0) rfl (by kernel_rfl) (by kernel_rfl) (by kernel_rfl) (by kernel_rfl) (by kernel_rfl) (fun _ _ _ h => h) rfl (fun w' h => exMid rfl (blk_rng30 (K1.out.ext h)) underRdk rfl infoRdk) B5.out ?_
  simp only [Act.put, List.setIfInBounds_toArray, List.set_cons_zero, List.set_cons_succ]
  refine zV (i := 1) rfl (by kernel_rfl) (by kernel_rfl) (by kernel_rfl) (by kernel_rfl) (by kernel_rfl) (fun _ _ _ h => h) rfl (fun w' h => exMid rfl (blk_rngL (K2.out.ext h)) underPat rfl hi4.out) B5.out ?_
  simp only [Act.put, List.setIfInBounds_toArray, List.set_cons_zero, List.set_cons_succ]
  refine wpAnyZ_all (rs := [2]) (by kernel_rfl) (by simp) ?_
  intro i hi
  simp only [List.mem_cons, List.not_mem_nil, or_false] at hi
  subst hi
  refine wpOp_of rfl rfl (wp_called (args := #[.agg cs.toArray]) hcB (by simp only [List.map_toArray, List.map_cons, List.map_nil]; rfl) (rbytes19_any p hpb.out w3 cs (P0.out.ext B5.out)) ?_)
  rintro e w4 ⟨v4, rfl, o4, b4⟩
  obtain ⟨P, hP⟩ : ∃ P, P = patBytes p := ⟨_, rfl⟩
  rw [← hP] at o4 hpl ⊢
  obtain ⟨n4, hn4⟩ : ∃ n4, n4 = P.length := ⟨_, rfl⟩
  rw [← hn4] at o4 hpl
  obtain ⟨A4, c4, rfl, ba4⟩ := own_bytes o4 hn4.symm
  have B6 := Lib.hid (ext_trans B5.out b4)
  refine ⟨_, rfl, fun _ => B6.out, ?_⟩
  simp only [Act.put, List.setIfInBounds_toArray, List.set_cons_zero, List.set_cons_succ]
  refine wpAnyZ_all (rs := [3]) (by kernel_rfl) (by simp) ?_
  intro i hi
  simp only [List.mem_cons, List.not_mem_nil, or_false] at hi
  subst hi
  refine wpOp_of rfl rfl (wp_called (args := #[.slice A4 n4 c4]) hcF (by simp only [List.map_toArray, List.map_cons, List.map_nil]; rfl) (rframe06_any P w4 A4 n4 c4 ba4 (by omega)) ?_)
  rintro e w5 ⟨v5, rfl, o5, b5⟩
  have hFl := frameB_len P
  have hvl := vbytes_len 9 P.length (by omega)
  obtain ⟨Q, hQ⟩ : ∃ Q, Q = frameB P := ⟨_, rfl⟩
  rw [← hQ] at o5 hFl ⊢
  obtain ⟨n5, hn5⟩ : ∃ n5, n5 = Q.length := ⟨_, rfl⟩
  rw [← hn5] at o5 hFl
  obtain ⟨A5, c5, rfl, ba5⟩ := own_bytes o5 hn5.symm
  have B7 := Lib.hid (ext_trans B6.out b5)
  refine ⟨_, rfl, fun _ => B7.out, ?_⟩
  simp only [Act.put, List.setIfInBounds_toArray, List.set_cons_zero, List.set_cons_succ]
  refine wpAnyZ_all (rs := [4]) (by kernel_rfl) (by simp) ?_
  intro i hi
  simp only [List.mem_cons, List.not_mem_nil, or_false] at hi
  subst hi
  refine wpOp_of rfl rfl (wp_called (args := #[.agg (rdV l s), .slice A5 n5 c5]) hcA (by simp only [List.map_toArray, List.map_cons, List.map_nil]; rfl) (rdAppend_any l Q s w5 A5 n5 c5 ba5 (by omega)) ?_)
  rintro e w6 ⟨rfl, b6⟩
  have B8 := Lib.hid (ext_trans B7.out b6)
  refine ⟨_, rfl, fun _ => B8.out, ?_⟩
  simp only [Act.put, List.setIfInBounds_toArray, List.set_cons_zero, List.set_cons_succ]
  have K6 := Lib.hid (K3.out.ext B8.out)
  refine wpAnyZ_all (rs := [5]) (by kernel_rfl) (by simp) ?_
  intro i hi
  simp only [List.mem_cons, List.not_mem_nil, or_false] at hi
  subst hi
  refine wpOp_of rfl rfl (wp_stored (cs := rdV (l ++ Q) s) rfl rfl K6.out infoRdk rfl (rdV_one _ _) ?_)
  refine ⟨noZ (by kernel_rfl), ?_⟩
  refine wpAnyZ_done (by kernel_rfl) ?_ _
  have BW := Lib.hid (below_setRow (B0.out.trans (B8.out.mono B0.out.size)) hB.out (rdV (l ++ Q) s))
  go_wp2_with fail
  refine bodyPost_ret (results_row30 rfl _ _ g3 _ (rdV (l ++ Q) s) _ rfl (K6.out.row _) underRdk rfl infoRdk) rfl ?_
  exact ⟨by rw [hQ, hP], BW.out⟩
end Go.Proofs.YtdafiipedlglpaaGreatDoor

/- The chapter's example of a log: walked. -/
namespace Go.Proofs.YtdafiipedlglpaaGreatDoor
open Go.RowKit

def w30o : OpV := (1, vid0, vid0, ByteArray.empty)
def w30a : PatV := ((1, 1), [], [w30o])
def w30b : PatV := ((2, 1), [], [w30o])
theorem w30_ok : patB w30a = true ∧ patB w30b = true := ⟨by kernel_rfl, by kernel_rfl⟩
theorem w30_n : (patBytes w30a).length = 4 ∧ (patBytes w30b).length = 4 := ⟨by kernel_rfl, by kernel_rfl⟩
theorem w30_fl : flen w30a = 9 ∧ flen w30b = 9 := by
  unfold flen
  rw [frameB_len, frameB_len, w30_n.1, w30_n.2]
  exact ⟨by kernel_rfl, by kernel_rfl⟩
theorem w30_len : (frameB (patBytes w30a)).length = 9 ∧ (frameB (patBytes w30b)).length = 9 := w30_fl
theorem w30_read : readL ((frameB (patBytes w30a) ++ frameB (patBytes w30b)).take 12) = [(w30a, 9)] := by
  have e1 : (frameB (patBytes w30a) ++ frameB (patBytes w30b)).take 12 = framesB [w30a] ++ (frameB (patBytes w30b)).take 3 := by
    rw [List.take_append, w30_len.1, List.take_of_length_le (by rw [w30_len.1]; omega)]
    unfold framesB
    simp
  rw [e1, readL_frames [w30a] _ (fun p hp => by rw [List.mem_singleton.1 hp]; exact w30_ok.1), readL_stop (.inl (next_cut (by rw [w30_n.2]; omega) (by rw [w30_len.2]; omega)))]
  unfold withLen
  rw [List.map_cons, w30_fl.1]
  rfl
theorem w30_ops (w : World) : OpsAt (w.alloc (.cells (encO w30o).toArray 152)) (some ⟨w.heap.size, 0, none⟩) 1 [w30o] := by
  have := ops_new w [w30o] (by simp [OpV.ok, w30o, maxLen])
  simpa using this
theorem pids_no (w : World) : PidsAt w none 0 [] := ⟨rfl, ⟨rfl, fun h => absurd h (by decide)⟩⟩
theorem w30_patA (w : World) : PatAt (w.alloc (.cells (encO w30o).toArray 152)) (patC (1, 1) none 0 0 (some ⟨w.heap.size, 0, none⟩) 1 1) w30a :=
  ⟨⟨none, 0, some ⟨w.heap.size, 0, none⟩, 1, rfl, pids_no _, w30_ops w⟩, by decide, by decide⟩
theorem w30_patB (w : World) : PatAt (w.alloc (.cells (encO w30o).toArray 152)) (patC (2, 1) none 0 0 (some ⟨w.heap.size, 0, none⟩) 1 1) w30b :=
  ⟨⟨none, 0, some ⟨w.heap.size, 0, none⟩, 1, rfl, pids_no _, w30_ops w⟩, by decide, by decide⟩
theorem buildA30 (b : Nat) (w : World) : (Instr.build 64 #[(0, .agg #[.int .u8 1, .int .u16 1]), (2, .slice (some ⟨b, 0, none⟩) 1 1)]).run Tryz.prog w = .ok (.agg (patC (1, 1) none 0 0 (some ⟨b, 0, none⟩) 1 1).toArray) w := by kernel_rfl
theorem buildB30 (b : Nat) (w : World) : (Instr.build 64 #[(0, .agg #[.int .u8 2, .int .u16 1]), (2, .slice (some ⟨b, 0, none⟩) 1 1)]).run Tryz.prog w = .ok (.agg (patC (2, 1) none 0 0 (some ⟨b, 0, none⟩) 1 1).toArray) w := by kernel_rfl
theorem buildO30 (w : World) : (Instr.build 152 #[(0, .int .u8 1)]).run Tryz.prog w = .ok (.agg (encO w30o).toArray) w := by kernel_rfl
theorem buildPA30 (w : World) : (Instr.build 60 #[(0, .int .u8 1), (1, .int .u16 1)]).run Tryz.prog w = .ok (.agg #[.int .u8 1, .int .u16 1]) w := by kernel_rfl
theorem buildPB30 (w : World) : (Instr.build 60 #[(0, .int .u8 2), (1, .int .u16 1)]).run Tryz.prog w = .ok (.agg #[.int .u8 2, .int .u16 1]) w := by kernel_rfl
set_option maxRecDepth 100000 in
set_option maxHeartbeats 4000000 in
theorem works30 (w : World) (hFo : FourOk w) : Calls Tryz.prog 26 #[] w (RetB w (.bool true)) := by
  have F0 := Lib.hid hFo
  clear hFo
  go_enter Tryz.func26, Tryz.ntmps26
  go_wp2_with fail
  refine (diskNew_any _).mono ?_
  rintro e w1 ⟨rfl, b1, D1⟩
  obtain ⟨d, hd⟩ : ∃ d, d = w.heap.size := ⟨_, rfl⟩
  rw [← hd] at D1 ⊢
  have hF1 : Hid (∀ k, k = d → w.heap.size ≤ k) := fun k e => by omega
  replace hd := Lib.hid hd
  have B1 := Lib.hid b1
  have F1 := Lib.hid (four_ext F0.out b1)
  have HO := Lib.hid (logOpen_any D1 (by show 0 ≤ 900000; omega) F1.out)
  clear b1 D1 F1
  go_wp2_with fail
  refine HO.out.mono ?_
  rintro e w2 ⟨lb, v0, E, G, rfl, kp, LA, OG, hE, hG⟩
  rw [readL_nil] at LA OG
  obtain ⟨A0, c0, rfl, -⟩ := OG.slice
  have B2 : Hid (Below w.heap.size w w2) := B1.out.trans (kp.below (fun k e => hF1.out k e) B1.out.size)
  have hF2 : Hid (∀ k, E k → w.heap.size ≤ k) := fun k e => (hE k e).elim (hF1.out k) (fun h => Nat.le_trans B1.out.size h)
  have L2 : Hid (LogAt w2 E lb d [] [] 0) := LA
  have hF2' := hF2
  clear kp LA OG hE hG hF1 B1 HO
  clear hF2'
  dsimp only
  have P1 := Lib.hid (w30_patA w2)
  have KO : Hid (Below w2.heap.size w2 (w2.alloc (.cells (encO w30o).toArray 152))) := below_new _ _
  go_upto_region 4 with (first
    | (refine wpList_built (buildPA30 _) (by rfl) ?_)
    | (refine wpList_built (buildO30 _) (by rfl) ?_)
    | (refine wpList_lit1 opSl (cs := encO w30o) rfl (by omega) (by rfl) ?_)
    | (refine wpList_built (buildA30 _ _) (by rfl) ?_))
  generalize (w2.alloc (.cells (encO w30o).toArray 152)) = w2a at *
  have L2a := Lib.hid (L2.out.ext KO.out)
  have B2a := Lib.hid (B2.out.trans (KO.out.mono B2.out.size))
  have F2a := Lib.hid (four_ext F0.out B2a.out)
  have HA := Lib.hid (logAppend_any L2a.out (by show 0 ≤ 900000; omega) (by show 0 ≤ 1000; omega) w30a _ P1.out F2a.out)
  clear L2 B2 KO P1 F2a
  go_wp2_with fail
  refine HA.out.mono ?_
  rintro e w3 ⟨h1, -⟩
  obtain ⟨rfl, kp, E3, LA, hE⟩ := h1 w30_ok.1
  have B3 : Hid (Below w.heap.size w w3) := B2a.out.trans (kp.below (fun k e => hF2.out k e) B2a.out.size)
  have hF3 : Hid (∀ k, E3 k → w.heap.size ≤ k) := fun k e => (hE k e).elim (hF2.out k) (fun h => Nat.le_trans B2a.out.size h)
  have L3 : Hid (LogAt w3 E3 lb d (frameB (patBytes w30a)) [9] 0) := by
    have h := LA
    rw [w30_fl.1] at h
    exact h
  clear kp LA hE h1 HA B2a hF2 L2a
  have HY := Lib.hid (logSync_any L3.out)
  go_wp2_with fail
  refine HY.out.mono ?_
  rintro e w4 ⟨rfl, kp, E4, LA, hE⟩
  have B4 : Hid (Below w.heap.size w w4) := B3.out.trans (kp.below (fun k e => hF3.out k e) B3.out.size)
  have hF4 : Hid (∀ k, E4 k → w.heap.size ≤ k) := fun k e => (hE k e).elim (hF3.out k) (fun h => Nat.le_trans B3.out.size h)
  have L4 : Hid (LogAt w4 E4 lb d (frameB (patBytes w30a)) [9] 9) := by
    have h := LA
    rw [w30_len.1] at h
    exact h
  clear kp LA hE HY B3 hF3 L3
  have P2 := Lib.hid (w30_patB w4)
  have KO : Hid (Below w4.heap.size w4 (w4.alloc (.cells (encO w30o).toArray 152))) := below_new _ _
  go_upto_region 6 with (first
    | (refine wpList_built (buildPB30 _) (by rfl) ?_)
    | (refine wpList_built (buildO30 _) (by rfl) ?_)
    | (refine wpList_lit1 opSl (cs := encO w30o) rfl (by omega) (by rfl) ?_)
    | (refine wpList_built (buildB30 _ _) (by rfl) ?_))
  generalize (w4.alloc (.cells (encO w30o).toArray 152)) = w4a at *
  have L4a := Lib.hid (L4.out.ext KO.out)
  have B4a := Lib.hid (B4.out.trans (KO.out.mono B4.out.size))
  have F4a := Lib.hid (four_ext F0.out B4a.out)
  have HA := Lib.hid (logAppend_any L4a.out (by rw [w30_len.1]; omega) (by show 1 ≤ 1000; omega) w30b _ P2.out F4a.out)
  clear L4 B4 KO P2 F4a
  go_wp2_with fail
  refine HA.out.mono ?_
  rintro e w5 ⟨h1, -⟩
  obtain ⟨rfl, kp, E5, LA, hE⟩ := h1 w30_ok.2
  have B5 : Hid (Below w.heap.size w w5) := B4a.out.trans (kp.below (fun k e => hF4.out k e) B4a.out.size)
  have hF5 : Hid (∀ k, E5 k → w.heap.size ≤ k) := fun k e => (hE k e).elim (hF4.out k) (fun h => Nat.le_trans B4a.out.size h)
  have L5 : Hid (LogAt w5 E5 lb d (frameB (patBytes w30a) ++ frameB (patBytes w30b)) [9, 18] 9) := by
    have h := LA
    rw [w30_len.1, w30_fl.2] at h
    exact h
  clear kp LA hE h1 HA B4a hF4 L4a
  obtain ⟨X, hX⟩ : ∃ X, X = frameB (patBytes w30a) ++ frameB (patBytes w30b) := ⟨_, rfl⟩
  rw [← hX] at L5
  have hXl : Hid (X.length = 18) := by rw [Hid, hX, List.length_append, w30_len.1, w30_len.2]
  have hXr : Hid (readL (X.take 12) = [(w30a, 9)]) := by rw [Hid, hX]; exact w30_read
  clear hX
  have HL : Hid (Calls Tryz.prog 40 #[.pointer (some ⟨lb, 0, none⟩)] w5 (Ret w5 (.int .i64 2))) := logLen_any L5.out
  have HS : Hid (Calls Tryz.prog 41 #[.pointer (some ⟨lb, 0, none⟩)] w5 (RetB w5 (.int .i64 1))) := logSure_any L5.out (by decide) (by rw [hXl.out]; omega) (by show 2 ≤ 1000; omega)
  go_wp2_with fail
  refine HL.out.mono ?_
  rintro e _ ⟨rfl, rfl⟩
  go_wp2_with fail
  refine HS.out.mono ?_
  rintro e w6 ⟨rfl, b6⟩
  have B6 := Lib.hid (B5.out.trans (b6.mono B5.out.size))
  obtain ⟨D, hD, hDE⟩ := (L5.out.ext b6).disk
  have hF6 : Hid (∀ k, D k → w.heap.size ≤ k) := fun k e => hF5.out k (hDE k e)
  have HC := Lib.hid (diskCrash_any hD 3 (by omega) (by omega) (by rw [hXl.out]; omega))
  have hk : keepN X.length 9 3 = 12 := by rw [hXl.out]; rfl
  rw [hk] at HC
  clear HL HS b6 L5 B5 hF5 hD hDE hk
  go_wp2_with fail
  refine HC.out.mono ?_
  rintro e w7 ⟨rfl, kp, D7, D7h, hE⟩
  have B7 : Hid (Below w.heap.size w w7) := B6.out.trans (kp.below (fun k e => hF6.out k e) B6.out.size)
  have hF7 : Hid (∀ k, D7 k → w.heap.size ≤ k) := fun k e => (hE k e).elim (hF6.out k) (fun h => Nat.le_trans B6.out.size h)
  have F7 := Lib.hid (four_ext F0.out B7.out)
  have HO := Lib.hid (logOpen_any D7h (by rw [List.length_take, hXl.out]; omega) F7.out)
  clear kp D7h hE HC B6 hF6 F7
  go_wp2_with fail
  refine HO.out.mono ?_
  rintro e w8 ⟨l2, v8, E8, G8, rfl, kp, LA, OG, hE, hG⟩
  rw [hXr.out] at LA OG
  obtain ⟨A8, c8, rfl, -⟩ := OG.slice
  have B8 : Hid (Below w.heap.size w w8) := B7.out.trans (kp.below (fun k e => hF7.out k e) B7.out.size)
  have L8 : Hid (LogAt w8 E8 l2 d ((X.take 12).take 9) [9] 9) := LA
  obtain ⟨D8, hD8, -⟩ := LA.disk
  have HL : Hid (Calls Tryz.prog 40 #[.pointer (some ⟨l2, 0, none⟩)] w8 (Ret w8 (.int .i64 1))) := logLen_any L8.out
  have HK := Lib.hid (diskLen_any hD8)
  have h9 : ((X.take 12).take (sumLen [(w30a, 9)])).length = 9 := by rw [List.length_take, List.length_take, hXl.out]; rfl
  rw [h9] at HK
  obtain ⟨b, o, x, r, hA8, -, hx, hp, hr⟩ := OG.pats.at_ (k := 0) (by show 0 < 1; omega)
  obtain rfl : x = w30a := by simpa using hx.symm
  obtain ⟨⟨Ap, cp, Ap', cp', rfl, -, -⟩, -, -⟩ := hp
  subst hA8
  have y0 : w8.cell? ⟨b, o, none⟩ = some (.int .u8 1) := by simpa using hr 0 (.int .u8 1) rfl
  clear kp LA OG hE hG HO B7 hF7 hXl hXr hD8 h9 hr hx L8 F0
  dsimp only [List.length_cons, List.length_nil, List.map_cons, List.map_nil]
  go_wp2_with fail
  refine HL.out.mono ?_
  rintro e _ ⟨rfl, rfl⟩
  go_wp2_with fail
  refine HK.out.mono ?_
  rintro e _ ⟨rfl, rfl⟩
  clear HL HK
  go_wp2
  go_ret
  exact ⟨rfl, B8.out⟩
end Go.Proofs.YtdafiipedlglpaaGreatDoor

/- What the laws of the log share; any bytes behind any log are read as the document says: walked. -/
namespace Go.Proofs.YtdafiipedlglpaaGreatDoor
open Go.RowKit

theorem flen_le30 {p : PatV} (h : patB p = true) : flen p ≤ 20020 := by
  unfold flen
  rw [frameB_len]
  have := patBytes_len h
  have := vbytes_len 9 (patBytes p).length (by omega)
  omega
theorem frames_le30 : ∀ ps : List PatV, (∀ p ∈ ps, patB p = true) → (framesB ps).length ≤ 20020 * ps.length
  | [], _ => Nat.le_refl _
  | p :: ps, h => by
    have h1 := frames_le30 ps fun q hq => h q (List.mem_cons_of_mem _ hq)
    have h2 : (frameB (patBytes p)).length ≤ 20020 := flen_le30 (h p (List.mem_cons_self ..))
    have e : framesB (p :: ps) = frameB (patBytes p) ++ framesB ps := by unfold framesB; rw [List.flatMap_cons]
    rw [e, List.length_append, List.length_cons]
    omega
def goodsA (l : List Act30) : List PatV := (l.map fun a => a.2.2).filter patB
theorem goodsA_ok (l : List Act30) : ∀ p ∈ goodsA l, patB p = true := fun _ h => (List.mem_filter.1 h).2
theorem goodsA_le (l : List Act30) : (goodsA l).length ≤ l.length := by
  have h := List.length_filter_le patB (l.map fun a => a.2.2)
  rw [List.length_map] at h
  exact h
theorem goodsA_yes {l : List Act30} {k : Nat} {a : Act30} (h : l[k]? = some a) (hp : patB a.2.2 = true) : goodsA (l.take (k + 1)) = goodsA (l.take k) ++ [a.2.2] := by
  unfold goodsA
  rw [List.take_add_one, h, Option.toList_some, List.map_append, List.filter_append, List.map_cons, List.map_nil, List.filter_cons_of_pos hp]
  rfl
theorem goodsA_no {l : List Act30} {k : Nat} {a : Act30} (h : l[k]? = some a) (hp : patB a.2.2 = false) : goodsA (l.take (k + 1)) = goodsA (l.take k) := by
  unfold goodsA
  rw [List.take_add_one, h, Option.toList_some, List.map_append, List.filter_append, List.map_cons, List.map_nil, List.filter_cons_of_neg (by rw [hp]; simp)]
  simp
theorem frames_snoc (ps : List PatV) (p : PatV) : framesB (ps ++ [p]) = framesB ps ++ frameB (patBytes p) := by
  rw [frames_append]
  unfold framesB
  simp
theorem fewA30_len {l : List Act30} (h : fewA30 l = true) : l.length ≤ 30 := by
  unfold fewA30 at h
  rw [Bool.and_eq_true, decide_eq_true_eq] at h
  exact h.1
theorem indexActs (b o n c k : Nat) (hk : k < n) (w : World) : (Instr.indexAt 50 (.slice (some ⟨b, o, none⟩) n c) (.int .i64 ((k : Nat) : Int))).run Tryz.prog w = .ok (.pointer (some ⟨b, o + k * 6, none⟩)) w := by
  have h0 : (0 : Int) ≤ (k : Int) := by omega
  have h1 : (k : Int) < (n : Int) := by omega
  simp [go_sem, h0, h1]
theorem fieldAct2 (b o : Nat) (w : World) : (Instr.fieldAt 66 (.pointer (some ⟨b, o, none⟩)) 2).run Tryz.prog w = .ok (.pointer (some ⟨b, o + 2, none⟩)) w := by simp [go_sem]
theorem fieldAct1 (b o : Nat) (w : World) : (Instr.fieldAt 66 (.pointer (some ⟨b, o, none⟩)) 1).run Tryz.prog w = .ok (.pointer (some ⟨b, o + 1, none⟩)) w := by simp [go_sem]
theorem fieldRk0 (b : Nat) (w : World) : (Instr.fieldAt 55 (.pointer (some ⟨b, 0, none⟩)) 0).run Tryz.prog w = .ok (.pointer (some ⟨b, 0, none⟩)) w := by simp [go_sem]
theorem fieldRk1 (b : Nat) (w : World) : (Instr.fieldAt 55 (.pointer (some ⟨b, 0, none⟩)) 1).run Tryz.prog w = .ok (.pointer (some ⟨b, 1, none⟩)) w := by simp [go_sem]
theorem loadRkS (b o : Nat) (w : World) (S : ByteArray) (h : w.cell? ⟨b, o, none⟩ = some (.string S)) : (Instr.loadAt 9 (.pointer (some ⟨b, o, none⟩))).run Tryz.prog w = .ok (.string S) w := by simp [go_sem, h]
theorem loadRkI (b o : Nat) (w : World) (z : Int) (h : w.cell? ⟨b, o, none⟩ = some (.int .i64 z)) : (Instr.loadAt 3 (.pointer (some ⟨b, o, none⟩))).run Tryz.prog w = .ok (.int .i64 z) w := by simp [go_sem, h]
theorem wpPureD {P : Program} {Q : Exit → Act → World → Prop} {K : Act → World → Prop} {a : Act} {w : World} {d : Option Tmp} {op : Op} {ty : TypeId} {pos : String} {after : Array Edge} {gd : Option (Nat × Bool)} {v : Value} (h : (execOp a.eval ⟨d, op, ty, pos, after, gd⟩).run P w = .ok (.value v) w) (hk : K (a.put d v) w) : Oper.wp P ⟨d, op, ty, pos, after, gd⟩ a w K Q := wpPure30 h hk
theorem withLen_le5 : ∀ ps : List PatV, 5 * (withLen ps).length ≤ sumLen (withLen ps)
  | [] => Nat.le_refl _
  | p :: ps => by
    have h1 := withLen_le5 ps
    have h2 := flen_pos p
    have e : withLen (p :: ps) = (p, flen p) :: withLen ps := rfl
    rw [e, List.length_cons, sumLen_cons]
    dsimp only
    omega
theorem endsL_sorted (l : List (PatV × Nat)) : (endsL l).Pairwise (· ≤ ·) := by
  unfold endsL
  rw [List.pairwise_map]
  exact List.pairwise_lt_range.imp fun h => sumLen_take_mono l (by omega)
theorem buildRd00 (w : World) : (Instr.build 55 #[]).run Tryz.prog w = .ok (.agg rdZ) w := by kernel_rfl
theorem rdZ_one : rdZ.all (·.oneCell') = true := by kernel_rfl
theorem eqStr30 (S : ByteArray) (w : World) : (binOp .eql 9 (.string S) (.string S)).run Tryz.prog w = .ok (.bool true) w := by simp [go_sem]
theorem eqInt30 (z : Int) (w : World) : (binOp .eql 3 (.int .i64 z) (.int .i64 z)).run Tryz.prog w = .ok (.bool true) w := by simp [go_sem]
set_option maxRecDepth 100000 in
set_option maxHeartbeats 8000000 in
theorem logReads_walk (w : World) (tl : List UInt8) (At : Option Addr) (nt ct : Nat) (ht : BytesAt w At nt ct tl) (l : List Act30) (A : Option Addr) (n c : Nat) (hm : n ≤ maxLen) (h : Acts30At w A n l) (hFo : FourOk w) :
    Calls Tryz.prog 8 #[.slice At nt ct, .slice A n c] w (RetB w (.bool true)) := by
  have HF := Lib.hid (few30_any l w A n c h hm)
  have H := Lib.hid h
  have HT := Lib.hid ht
  have FO := Lib.hid hFo
  have hln := Lib.hid h.len
  clear h ht hFo
  go_enter Tryz.func8, Tryz.ntmps8
  by_cases d1 : (1000 : Int) < (nt : Int)
  · go_wp2_with fail
    refine (works30 _ FO.out).mono ?_
    rintro e w4 ⟨rfl, b4⟩
    go_wp2
    go_ret
    exact ⟨rfl, b4⟩
  · obtain ⟨few, hfew⟩ : ∃ b, b = fewA30 l := ⟨_, rfl⟩
    rw [← hfew] at HF
    cases few
    · go_wp2_with fail
      refine HF.out.mono ?_
      rintro e w3 ⟨rfl, b3⟩
      have F3 := Lib.hid (four_ext FO.out b3)
      go_wp2_with fail
      refine (works30 _ F3.out).mono ?_
      rintro e w4 ⟨rfl, b4⟩
      have B4 := Lib.hid (b3.trans (b4.mono b3.size))
      clear b3 b4
      go_wp2
      go_ret
      exact ⟨rfl, B4.out⟩
    · have hn30 : n ≤ 30 := by rw [← hln.out]; exact fewA30_len hfew.symm
      clear hfew
      go_wp2_with fail
      refine HF.out.mono ?_
      rintro e w3 ⟨rfl, b3⟩
      have B3 := Lib.hid b3
      clear b3 HF
      go_wp2_with fail
      refine (diskNew_any _).mono ?_
      rintro e w4 ⟨rfl, b4, D4⟩
      obtain ⟨d, hd⟩ : ∃ d, d = w3.heap.size := ⟨_, rfl⟩
      rw [← hd] at D4 ⊢
      have hdw : Hid (w.heap.size ≤ d) := by rw [Hid, hd]; exact B3.out.size
      clear hd
      have B4 := Lib.hid (B3.out.trans (b4.mono B3.out.size))
      have KA : Hid (Blk ((w4.alloc (.cells rdZ 55)).setRow w4.heap.size rdZ) w4.heap.size 55 (rdV (framesB (goodsA (l.take 0))) 0)) := (Blk.new _ _ _).row _
      have BN : Hid (Below w4.heap.size w4 ((w4.alloc (.cells rdZ 55)).setRow w4.heap.size rdZ)) := below_setRow (below_new w4 _) (Nat.le_refl _) _
      have hdg : Hid (d < w4.heap.size) := D4.lt d rfl
      have D5 := Lib.hid (D4.ext BN.out)
      have B5 := Lib.hid (B4.out.trans (BN.out.mono B4.out.size))
      have hgw : Hid (w.heap.size ≤ w4.heap.size) := B4.out.size
      clear b4 B3 D4 B4 BN
      go_upto_region 4 with (first
        | (refine wpList_built (buildRd00 _) (by rfl) ?_)
        | (refine wpList_alloced (allocRdk _) ?_)
        | (refine wpList_store_row rfl 55 _ _ (by rfl) w4.heap.size rdZ (by rfl) (by rfl) _ _ (Blk.new _ _ _) infoRdk rfl rdZ_one ?_))
      generalize ((w4.alloc (.cells rdZ 55)).setRow w4.heap.size rdZ) = w5 at *
      generalize w4.heap.size = gr at *
      go_wp2_with fail
      go_loopw [7] (fun iv wr => ∃ k : Nat, k ≤ n ∧ iv = .int .i64 k ∧ Hid (DiskAt wr (fun k => k = d) d [] 0) ∧ Hid (Blk wr gr 55 (rdV (framesB (goodsA (l.take k))) 0)) ∧ Hid (Below w.heap.size w wr)) (fun iv _ => n - (intOf iv).toNat)
      case atStart => exact ⟨0, by omega, rfl, D5.out, KA.out, B5.out⟩
      case round =>
        clear D5 KA B5
        obtain ⟨k, hk, rfl, D, K, B⟩ := hrel
        by_cases hlt : k < n
        · have hlk : (k : Int) < (n : Int) := by omega
          have hk0 : (0 : Int) ≤ (k : Int) := by omega
          obtain ⟨b, o, a, r, rfl, hb0, ha, pa, R⟩ := (H.out.ext B.out).at_ hlt
          obtain ⟨rp, rfl, hp⟩ := pa.ex
          have RP0 := Lib.hid (act30_pat R)
          have hi4 : (Tryz.prog.info? 64).map (·.size) = some rp.length := by rw [hp.len4]; exact infoPat
          have HG := Lib.hid (rgood18_any a.2.2 wr rp hp)
          have HP0 := Lib.hid hp
          have hb1 := Lib.hid hb0
          clear pa R hp hb0
          have ha := Lib.hid ha
          obtain ⟨gd, hgd⟩ : ∃ b, b = patB a.2.2 := ⟨_, rfl⟩
          rw [← hgd] at HG
          replace hgd := Lib.hid hgd
          go_wp2_with (refine wpList_load_mid rfl 64 _ (by rfl) b (o + k * 6 + 2) (by rfl) _ _ RP0.out underPat rfl hi4 ?_)
          refine HG.out.mono ?_
          rintro e wt ⟨rfl, bg⟩
          have Dt := Lib.hid (D.out.ext bg)
          have Kt := Lib.hid (K.out.ext bg)
          have Bt := Lib.hid (B.out.trans (bg.mono B.out.size))
          have RP := Lib.hid (rangeAt_below RP0.out bg hb1.out)
          have HP := Lib.hid (HP0.out.ext bg)
          have hb : Hid (b < wt.heap.size) := Nat.lt_of_lt_of_le hb1.out bg.size
          clear HG RP0 HP0 hb1 bg D K B
          cases gd
          · have e1 := Lib.hid (goodsA_no ha.out hgd.out.symm)
            clear hgd RP HP hb
            go_wp2_with fail
            go_roundw
            case rel => exact ⟨k + 1, by omega, by go_num, Dt.out, by rw [Hid, e1.out]; exact Kt.out, Bt.out⟩
            case measure => simp [intOf]; omega
          · have e1 : Hid (framesB (goodsA (l.take (k + 1))) = framesB (goodsA (l.take k)) ++ frameB (patBytes a.2.2)) := by rw [Hid, goodsA_yes ha.out hgd.out.symm, frames_snoc]
            have hL0 : Hid ((framesB (goodsA (l.take k))).length ≤ 900000) := by
              have h1 := frames_le30 _ (goodsA_ok (l.take k))
              have h2 := goodsA_le (l.take k)
              rw [List.length_take] at h2
              rw [Hid]; omega
            have hgd := Lib.hid hgd.out.symm
            obtain ⟨L0, hLe⟩ : ∃ L, L = framesB (goodsA (l.take k)) := ⟨_, rfl⟩
            rw [← hLe] at Kt e1 hL0
            clear hLe
            go_upto_region 8 with fail
            have hcA : ∀ args u, (callFunc 31 args).run Tryz.prog u = .ok (.enter 31 args) u := enters_of Tryz.func31 (by kernel_rfl) rfl
            refine wp_region_Z (S := fun w' => Below wt.heap.size wt w') (Z := [7]) mixedS ?_
            have B_0 : Hid (Below wt.heap.size wt wt.drew) := (Below.refl _ _).drew
            change wpAnyZ _ _ _ _ _ _ _ _ _ wt.drew
            generalize wt.drew = wd at *
            simp only [List.size_toArray, List.length_cons, List.length_nil]
            refine zV (i := 0) rfl (by kernel_rfl) (by kernel_rfl) (by kernel_rfl) (by kernel_rfl) (by kernel_rfl) (fun _ _ _ h => h) rfl (fun w' h => exMid rfl (blk_rng30 (Kt.out.ext h)) underRdk rfl infoRdk) B_0.out ?_
            simp only [Act.put, List.setIfInBounds_toArray, List.set_cons_zero, List.set_cons_succ]
            refine zV (i := 1) rfl (by kernel_rfl) (by kernel_rfl) (by kernel_rfl) (by kernel_rfl) (by kernel_rfl) (fun _ _ _ h => h) rfl (fun w' h => exMove (v := .slice (some ⟨b, o, none⟩) n c) rfl) B_0.out ?_
            simp only [Act.put, List.setIfInBounds_toArray, List.set_cons_zero, List.set_cons_succ]
            refine zV (i := 2) rfl (by kernel_rfl) (by kernel_rfl) (by kernel_rfl) (by kernel_rfl) (by kernel_rfl) (fun _ _ _ h => h) rfl (fun w' h => exMove (v := .int .i64 ((k : Nat) : Int)) rfl) B_0.out ?_
            simp only [Act.put, List.setIfInBounds_toArray, List.set_cons_zero, List.set_cons_succ]
            refine zV (i := 3) rfl (by kernel_rfl) (by kernel_rfl) (by kernel_rfl) (by kernel_rfl) (by kernel_rfl) (fun _ _ _ h => h) rfl (fun w' h => exIndex rfl rfl (indexActs b o n c k hlt w')) B_0.out ?_
            simp only [Act.put, List.setIfInBounds_toArray, List.set_cons_zero, List.set_cons_succ]
            refine zV (i := 4) rfl (by kernel_rfl) (by kernel_rfl) (by kernel_rfl) (by kernel_rfl) (by kernel_rfl) (fun _ _ _ h => h) rfl (fun w' h => exField rfl (fieldAct2 b (o + k * 6) w')) B_0.out ?_
            simp only [Act.put, List.setIfInBounds_toArray, List.set_cons_zero, List.set_cons_succ]
            refine zV (i := 5) rfl (by kernel_rfl) (by kernel_rfl) (by kernel_rfl) (by kernel_rfl) (by kernel_rfl) (fun _ _ _ h => h) rfl (fun w' h => exMid rfl (rangeAt_below RP.out h hb.out) underPat rfl hi4) B_0.out ?_
            simp only [Act.put, List.setIfInBounds_toArray, List.set_cons_zero, List.set_cons_succ]
            refine wpAnyZ_all (rs := [6]) (by kernel_rfl) (by simp) ?_
            intro i hi
            simp only [List.mem_cons, List.not_mem_nil, or_false] at hi
            subst hi
            refine wpOp_of rfl rfl (wp_called (args := #[.agg (rdV L0 0), .agg rp.toArray]) hcA (by simp only [List.map_toArray, List.map_cons, List.map_nil]; rfl) (rappend30_any L0 0 a.2.2 hgd.out wd rp (HP.out.ext B_0.out) hL0.out) ?_)
            rintro e we ⟨rfl, b_1⟩
            have B_1 := Lib.hid (ext_trans B_0.out b_1)
            refine ⟨_, rfl, fun _ => B_1.out, ?_⟩
            simp only [Act.put, List.setIfInBounds_toArray, List.set_cons_zero, List.set_cons_succ]
            have K_1 := Lib.hid (Kt.out.ext B_1.out)
            refine wpAnyZ_all (rs := [7]) (by kernel_rfl) (by simp) ?_
            intro i hi
            simp only [List.mem_cons, List.not_mem_nil, or_false] at hi
            subst hi
            refine wpOp_of rfl rfl (wp_stored (cs := rdV (L0 ++ frameB (patBytes a.2.2)) 0) rfl rfl K_1.out infoRdk rfl (rdV_one _ _) ?_)
            refine ⟨noZ (by kernel_rfl), ?_⟩
            refine wpAnyZ_done (by kernel_rfl) ?_ _
            have kp : Kept (fun k => k = gr) we (we.setRow gr (rdV (L0 ++ frameB (patBytes a.2.2)) 0)) := kept_row (fun k => k = gr) we rfl _
            have DF := Lib.hid ((Dt.out.ext B_1.out).stay (kp.stay fun q _ e1 e2 => by have e1 : q = d := e1; have e2 : q = gr := e2; have := hdg.out; omega))
            have BF := Lib.hid ((Bt.out.trans (B_1.out.mono Bt.out.size)).trans (kp.below (fun k e => by rw [e]; exact hgw.out) (Nat.le_trans Bt.out.size B_1.out.size)))
            have KF := Lib.hid (K_1.out.row (rdV (L0 ++ frameB (patBytes a.2.2)) 0))
            clear kp Dt Bt B_1 K_1 Kt B_0 hcA
            generalize (we.setRow gr (rdV (L0 ++ frameB (patBytes a.2.2)) 0)) = wf at *
            go_wp2_with fail
            go_roundw
            case rel => exact ⟨k + 1, by omega, by go_num, DF.out, by rw [Hid, e1.out]; exact KF.out, BF.out⟩
            case measure => simp [intOf]; omega
        · have hlk : ¬ (k : Int) < (n : Int) := by omega
          rw [List.take_of_length_le (by rw [hln.out]; omega)] at K
          go_upto_region 9 with fail
          have hX0 : Hid ((framesB (goodsA l)).length ≤ 600600) := by
            have h1 := frames_le30 _ (goodsA_ok l)
            have h2 := goodsA_le l
            have h3 := hln.out
            rw [Hid]; omega
          have hRn : Hid ((readL (framesB (goodsA l) ++ tl)).length ≤ 1000) := by
            have h2 := goodsA_le l
            have h3 := hln.out
            obtain ⟨ps, p1, p2, p3, p4⟩ := readL_told tl
            have h4 := withLen_le5 ps
            have h5 := HT.out.len
            rw [← p1] at h4
            rw [Hid, readL_frames _ _ (goodsA_ok l), List.length_append, withLen_length]
            omega
          obtain ⟨X0, hX0e⟩ : ∃ X, X = framesB (goodsA l) := ⟨_, rfl⟩
          rw [← hX0e] at K hX0 hRn
          clear hX0e
          have hnt : nt ≤ 1000 := by omega
          have HA := Lib.hid (rdAppend_any X0 tl 0 wr At nt ct (HT.out.ext B.out) (by have := hX0.out; omega))
          go_wp2_with (refine wpList_load_row rfl 55 _ (by rfl) gr (by rfl) _ _ _ _ K.out underRdk rfl infoRdk ?_)
          refine HA.out.mono ?_
          rintro e w6 ⟨rfl, b6⟩
          obtain ⟨X, hX⟩ : ∃ X, X = X0 ++ tl := ⟨_, rfl⟩
          have hXb : Hid (X.length ≤ 700000) := by have h1 := HT.out.len; have h2 := hX0.out; rw [Hid, hX, List.length_append]; omega
          rw [← hX] at hRn ⊢
          have K6 := Lib.hid (K.out.ext b6)
          have D6 := Lib.hid (D.out.ext b6)
          have B6 := Lib.hid (B.out.trans (b6.mono B.out.size))
          clear b6 HA K D B hX hX0
          have kp : Kept (fun k => k = gr) w6 (w6.setRow gr (rdV X 0)) := kept_row (fun k => k = gr) w6 rfl _
          have D7 := Lib.hid (D6.out.stay (kp.stay fun q _ e1 e2 => by have e1 : q = d := e1; have e2 : q = gr := e2; have := hdg.out; omega))
          have B7 := Lib.hid (B6.out.trans (kp.below (fun k e => by rw [e]; exact hgw.out) B6.out.size))
          have K7 := Lib.hid (K6.out.row (rdV X 0))
          clear kp
          go_upto_region 10 with (refine wpList_store_row rfl 55 _ _ (by rfl) gr (rdV X 0) (by rfl) (by rfl) _ _ K6.out infoRdk rfl (rdV_one _ _) ?_)
          generalize (w6.setRow gr (rdV X 0)) = w7 at *
          clear K6 D6 B6
          have y0 : w7.cell? ⟨gr, 0, none⟩ = some (.string (bytesOf X)) := K7.out.cell 0
          have CB := Lib.hid (conv_bytes w7 (bytesOf X))
          rw [bytesOf_size] at CB
          have BA := Lib.hid (conv_at30 w7 X (by have := hXb.out; omega))
          have bn := Lib.hid (conv_below w7 (bytesOf X))
          have K8 := Lib.hid (K7.out.ext bn.out)
          have D8 := Lib.hid (D7.out.ext bn.out)
          have B8 := Lib.hid (B7.out.trans (bn.out.mono B7.out.size))
          clear bn K7 D7 B7
          generalize (Lib.bytesWorld w7 5 (bytesOf X)) = w8 at *
          generalize grownCap w7 X.length 0 5 = c0 at *
          generalize w7.heap.size = gt at *
          have HDA := Lib.hid (diskAppend_any D8.out X _ _ _ BA.out (by show 0 + X.length ≤ 10000000; have := hXb.out; omega))
          go_wp2_with (refine wpList_convW rfl CB.out ?_)
          refine HDA.out.mono ?_
          rintro e w9 ⟨rfl, kp, D', hD', hE⟩
          have K9 := Lib.hid (K8.out.keep (kp.block gr K8.out.lt (by intro e; have e : gr = d := e; have := hdg.out; omega)))
          have B9 : Hid (Below w.heap.size w w9) := B8.out.trans (kp.below (fun k e => by have e : k = d := e; rw [e]; exact hdw.out) B8.out.size)
          have D9 : Hid (DiskAt w9 D' d X 0) := hD'
          have hE9 : Hid (∀ q, D' q → w.heap.size ≤ q ∧ q ≠ gr) := fun q e => by
            have h1 := hdw.out; have h2 := hdg.out; have h3 := B8.out.size; have h4 := K8.out.lt
            rcases hE q e with e | e
            · have e : q = d := e
              omega
            · omega
          have F9 := Lib.hid (four_ext FO.out B9.out)
          have HO := Lib.hid (logOpen_any D9.out (by have := hXb.out; omega) F9.out)
          clear kp hD' hE HDA K8 D8 B8 BA CB y0 F9
          go_wp2_with fail
          refine HO.out.mono ?_
          rintro e w10 ⟨lb, v1, E, G, rfl, kp, LA, OG, hE, hG⟩
          have K10 := Lib.hid (K9.out.keep (kp.block gr K9.out.lt (fun e => (hE9.out gr e).2 rfl)))
          have B10 : Hid (Below w.heap.size w w10) := B9.out.trans (kp.below (fun k e => (hE9.out k e).1) B9.out.size)
          have hEg : Hid (∀ q, E q → w.heap.size ≤ q) := fun q e => (hE q e).elim (fun e => (hE9.out q e).1) (fun e => Nat.le_trans B9.out.size e)
          obtain ⟨R, hR⟩ : ∃ R, R = readL X := ⟨_, rfl⟩
          rw [← hR] at LA OG hRn
          obtain ⟨L, hL⟩ : ∃ L, L = R.map (·.1) := ⟨_, rfl⟩
          rw [← hL] at OG
          have hLR : Hid (R.length = L.length) := by rw [Hid, hL, List.length_map]
          replace hL := Lib.hid hL
          obtain ⟨nL, hnL⟩ : ∃ n, n = L.length := ⟨_, rfl⟩
          obtain ⟨A1, c1, rfl, -⟩ := OG.slice
          have L10 := Lib.hid LA
          have P10 := Lib.hid OG.pats
          rw [← hnL] at P10 hLR ⊢
          replace hnL := Lib.hid hnL
          clear kp LA OG hE hG HO K9 B9 D9 hE9
          have HR := Lib.hid (ropen30_any X 0 w10 (by have := hXb.out; omega))
          go_wp2_with (refine wpList_load_row rfl 55 _ (by rfl) gr (by rfl) _ _ _ _ K10.out underRdk rfl infoRdk ?_)
          refine HR.out.mono ?_
          rintro e w11 ⟨v2, rfl, b11, oc⟩
          rw [← hR] at oc ⊢
          rw [← hL.out] at oc
          obtain ⟨A2, c2, rfl, -⟩ := oc.slice
          have L11 := Lib.hid (L10.out.ext b11)
          have P11 := Lib.hid (P10.out.ext b11)
          have Q11 := Lib.hid oc.pats.at_
          rw [← hnL.out] at Q11 ⊢
          have B11 := Lib.hid (B10.out.trans (b11.mono B10.out.size))
          clear b11 oc HR K10 L10 P10 B10
          obtain ⟨Y, hY⟩ : ∃ Y, Y = X.take (sumLen R) := ⟨_, rfl⟩
          rw [← hY] at L11 ⊢
          have hYb : Hid (Y.length ≤ 700000) := by rw [Hid, hY, List.length_take]; have := hXb.out; omega
          clear hY
          obtain ⟨sY, hsY⟩ : ∃ s, s = sumLen R := ⟨_, rfl⟩
          rw [← hsY] at L11 ⊢
          have hsure : Hid (((endsL R).filter fun e => decide (e ≤ sY)).length = R.length) := sureN_all (by rw [hsY]; exact Nat.le_refl _)
          clear hsY hR
          have hel : Hid ((endsL R).length = R.length) := endsL_len R
          have hsrt : Hid ((endsL R).Pairwise (· ≤ ·)) := endsL_sorted R
          have hLm : Hid (nL ≤ maxLen) := by have h1 := hLR.out; have h2 := hRn.out; unfold maxLen; rw [Hid]; omega
          generalize endsL R = ends at *
          have KN : Hid (Blk ((w11.alloc (.cells rdZ 55)).setRow w11.heap.size (rdV Y sY)) w11.heap.size 55 (rdV Y sY)) := (Blk.new _ _ _).row _
          have BN : Hid (Below w11.heap.size w11 ((w11.alloc (.cells rdZ 55)).setRow w11.heap.size (rdV Y sY))) := below_setRow (below_new w11 _) (Nat.le_refl _) _
          have L12 := Lib.hid (L11.out.ext BN.out)
          have P1a := Lib.hid (P11.out.ext BN.out)
          have P2a := Lib.hid (Q11.out.ext BN.out)
          have B12 := Lib.hid (B11.out.trans (BN.out.mono B11.out.size))
          have F12 := Lib.hid (four_ext FO.out B12.out)
          clear BN L11 P11 Q11 B11
          go_upto_region 13 with (first
            | (refine wpList_alloced (allocRdk _) ?_)
            | (refine wpList_store_row rfl 55 _ _ (by rfl) w11.heap.size (rdV Y sY) (by rfl) (by rfl) _ _ (Blk.new _ _ _) infoRdk rfl (rdV_one _ _) ?_))
          have K12 := KN
          clear KN
          generalize ((w11.alloc (.cells rdZ 55)).setRow w11.heap.size (rdV Y sY)) = w12 at *
          generalize w11.heap.size = g9 at *
          obtain ⟨nY, hnY⟩ : ∃ n, Y.length = n := ⟨_, rfl⟩
          obtain ⟨DD, hDD, -⟩ := L12.out.disk
          have HBY : Hid (∀ u, Below w12.heap.size w12 u → Calls Tryz.prog 38 #[.pointer (some ⟨d, 0, none⟩)] u (OwnedRet u 5 1 nY (encB Y))) := fun u hu => by
            have h1 := diskBytes_any (hDD.ext hu) (by have := hYb.out; omega)
            rw [hnY] at h1
            exact h1
          have hnY := Lib.hid hnY
          have HSU : Hid (∀ u, Below w12.heap.size w12 u → Calls Tryz.prog 39 #[.pointer (some ⟨d, 0, none⟩)] u (Ret u (.int .i64 (sY : Int)))) := fun u hu => diskSure_any (hDD.ext hu)
          have HLN : Hid (∀ u, Below w12.heap.size w12 u → Calls Tryz.prog 40 #[.pointer (some ⟨lb, 0, none⟩)] u (Ret u (.int .i64 (nL : Int)))) := fun u hu => by
            have h1 := logLen_any (L12.out.ext hu)
            rw [hel.out, hLR.out] at h1
            exact h1
          have HLS : Hid (∀ u, Below w12.heap.size w12 u → Calls Tryz.prog 41 #[.pointer (some ⟨lb, 0, none⟩)] u (RetB u (.int .i64 (nL : Int)))) := fun u hu => by
            have h1 := logSure_any (L12.out.ext hu) hsrt.out (by have := hYb.out; omega) (by rw [hel.out]; exact hRn.out)
            rw [hsure.out, hLR.out] at h1
            exact h1
          clear hDD
          have hcP : ∀ args u, (callFunc 37 args).run Tryz.prog u = .ok (.enter 37 args) u := enters_of Tryz.func37 (by kernel_rfl) rfl
          have hcB : ∀ args u, (callFunc 38 args).run Tryz.prog u = .ok (.enter 38 args) u := enters_of Tryz.func38 (by kernel_rfl) rfl
          have hcS : ∀ args u, (callFunc 39 args).run Tryz.prog u = .ok (.enter 39 args) u := enters_of Tryz.func39 (by kernel_rfl) rfl
          have hcL : ∀ args u, (callFunc 40 args).run Tryz.prog u = .ok (.enter 40 args) u := enters_of Tryz.func40 (by kernel_rfl) rfl
          have hcU : ∀ args u, (callFunc 41 args).run Tryz.prog u = .ok (.enter 41 args) u := enters_of Tryz.func41 (by kernel_rfl) rfl
          have hcW : ∀ args u, (callFunc 26 args).run Tryz.prog u = .ok (.enter 26 args) u := enters_of Tryz.func26 (by kernel_rfl) rfl
          refine wp_region_held (S := fun w' => Below w12.heap.size w12 w') mixedS ?_
          change wpAnyH _ _ _ _ _ _ _ _ w12.drew
          have B13 : Hid (Below w12.heap.size w12 w12.drew) := (Below.refl _ _).drew
          have P1d := Lib.hid (P1a.out.ext B13.out)
          have P2d := Lib.hid (P2a.out.ext B13.out)
          clear P1a P2a
          generalize w12.drew = w13 at *
          simp only [List.size_toArray, List.length_cons, List.length_nil]
          refine takeV (i := 0) (d := 60) (v := .slice A1 nL c1) rfl (by kernel_rfl) (by kernel_rfl) (by kernel_rfl) (fun _ _ _ h => h) rfl (fun _ _ => exMove (v := .slice A1 nL c1) rfl) B13.out ?_
          simp only [Act.put, List.setIfInBounds_toArray, List.set_cons_zero, List.set_cons_succ]
          refine takeV (i := 1) (d := 61) (v := .slice A2 nL c2) rfl (by kernel_rfl) (by kernel_rfl) (by kernel_rfl) (fun _ _ _ h => h) rfl (fun _ _ => exMove (v := .slice A2 nL c2) rfl) B13.out ?_
          simp only [Act.put, List.setIfInBounds_toArray, List.set_cons_zero, List.set_cons_succ]
          refine wpAnyH_all (rs := [2]) (by kernel_rfl) (by simp) ?_
          intro i hi
          simp only [List.mem_cons, List.not_mem_nil, or_false] at hi
          subst hi
          refine wpOp_of rfl rfl (wp_called (args := #[.slice A1 nL c1, .slice A2 nL c2]) hcP (by simp only [List.map_toArray, List.map_cons, List.map_nil]; rfl) (patches30_same L w13 _ _ _ _ _ P1d.out P2d.out hLm.out) ?_)
          rintro e w_1 ⟨rfl, h_2⟩
          refine ⟨_, rfl, ext_trans B13.out h_2, ?_⟩
          simp only [Act.put, List.setIfInBounds_toArray, List.set_cons_zero, List.set_cons_succ]
          have B_3 := Lib.hid (ext_trans B13.out h_2)
          have F_4 := Lib.hid (P1d.out.ext h_2)
          have F_5 := Lib.hid (P2d.out.ext h_2)
          clear B13 P1d P2d
          clear h_2
          refine takeV (i := 3) (d := 63) (v := .bool true) rfl (by kernel_rfl) (by kernel_rfl) (by kernel_rfl) (fun _ _ _ h => h) rfl (fun w' _ => exBin rfl rfl (by rfl) (by kernel_rfl)) B_3.out ?_
          simp only [Act.put, List.setIfInBounds_toArray, List.set_cons_zero, List.set_cons_succ]
          refine takeV (i := 4) (d := 64) (v := .bool true) rfl (by kernel_rfl) (by kernel_rfl) (by kernel_rfl) (fun _ _ _ h => h) rfl (fun _ _ => exMove (v := .bool true) rfl) B_3.out ?_
          simp only [Act.put, List.setIfInBounds_toArray, List.set_cons_zero, List.set_cons_succ]
          refine takeV (i := 5) (d := 65) (v := .pointer (some ⟨d, 0, none⟩)) rfl (by kernel_rfl) (by kernel_rfl) (by kernel_rfl) (fun _ _ _ h => h) rfl (fun _ _ => exMove (v := .pointer (some ⟨d, 0, none⟩)) rfl) B_3.out ?_
          simp only [Act.put, List.setIfInBounds_toArray, List.set_cons_zero, List.set_cons_succ]
          refine takeV (i := 8) (d := 68) (v := .pointer (some ⟨g9, 0, none⟩)) rfl (by kernel_rfl) (by kernel_rfl) (by kernel_rfl) (fun _ _ _ h => h) rfl (fun w' _ => exField rfl (fieldRk0 g9 w')) B_3.out ?_
          simp only [Act.put, List.setIfInBounds_toArray, List.set_cons_zero, List.set_cons_succ]
          refine takeV (i := 9) (d := 69) (v := .string (bytesOf Y)) rfl (by kernel_rfl) (by kernel_rfl) (by kernel_rfl) (fun _ _ _ h => h) rfl (fun w' h => exLoad rfl (loadRkS g9 0 w' (bytesOf Y) ((K12.out.ext h).cell 0))) B_3.out ?_
          simp only [Act.put, List.setIfInBounds_toArray, List.set_cons_zero, List.set_cons_succ]
          refine wpAnyH_all (rs := [6]) (by kernel_rfl) (by simp) ?_
          intro i hi
          simp only [List.mem_cons, List.not_mem_nil, or_false] at hi
          subst hi
          refine wpOp_of rfl rfl (wp_called (args := #[.pointer (some ⟨d, 0, none⟩)]) hcB (by simp only [List.map_toArray, List.map_cons, List.map_nil]; rfl) (HBY.out w_1 B_3.out) ?_)
          rintro e w_6 ⟨v_7, rfl, o_8, h_9⟩
          obtain ⟨A_10, c_11, rfl, _, S_120⟩ := Sl.of_own o_8
          have S_12 := Lib.hid S_120
          refine ⟨_, rfl, ext_trans B_3.out h_9, ?_⟩
          simp only [Act.put, List.setIfInBounds_toArray, List.set_cons_zero, List.set_cons_succ]
          have B_13 := Lib.hid (ext_trans B_3.out h_9)
          have F_14 := Lib.hid (F_4.out.ext h_9)
          have F_15 := Lib.hid (F_5.out.ext h_9)
          clear B_3 F_4 F_5
          clear o_8 h_9 S_120
          refine wpAnyH_all (rs := [7]) (by kernel_rfl) (by simp) ?_
          intro i hi
          simp only [List.mem_cons, List.not_mem_nil, or_false] at hi
          subst hi
          refine wpOp_of rfl rfl (wpPureD (exConvB rfl (strB_run S_12.out hnY.out)) ?_)
          refine ⟨B_13.out, ?_⟩
          simp only [Act.put, List.setIfInBounds_toArray, List.set_cons_zero, List.set_cons_succ]
          clear S_12
          refine takeV (i := 10) (d := 70) (v := .bool true) rfl (by kernel_rfl) (by kernel_rfl) (by kernel_rfl) (fun _ _ _ h => h) rfl (fun w' _ => exBin rfl rfl (by rfl) (eqStr30 _ w')) B_13.out ?_
          simp only [Act.put, List.setIfInBounds_toArray, List.set_cons_zero, List.set_cons_succ]
          refine takeV (i := 11) (d := 71) (v := .bool true) rfl (by kernel_rfl) (by kernel_rfl) (by kernel_rfl) (fun _ _ _ h => h) rfl (fun _ _ => exPickT (v := .bool true) rfl rfl) B_13.out ?_
          simp only [Act.put, List.setIfInBounds_toArray, List.set_cons_zero, List.set_cons_succ]
          refine takeV (i := 12) (d := 72) (v := .bool true) rfl (by kernel_rfl) (by kernel_rfl) (by kernel_rfl) (fun _ _ _ h => h) rfl (fun _ _ => exMove (v := .bool true) rfl) B_13.out ?_
          simp only [Act.put, List.setIfInBounds_toArray, List.set_cons_zero, List.set_cons_succ]
          refine takeV (i := 13) (d := 73) (v := .pointer (some ⟨d, 0, none⟩)) rfl (by kernel_rfl) (by kernel_rfl) (by kernel_rfl) (fun _ _ _ h => h) rfl (fun _ _ => exMove (v := .pointer (some ⟨d, 0, none⟩)) rfl) B_13.out ?_
          simp only [Act.put, List.setIfInBounds_toArray, List.set_cons_zero, List.set_cons_succ]
          refine takeV (i := 15) (d := 75) (v := .pointer (some ⟨g9, 1, none⟩)) rfl (by kernel_rfl) (by kernel_rfl) (by kernel_rfl) (fun _ _ _ h => h) rfl (fun w' _ => exField rfl (fieldRk1 g9 w')) B_13.out ?_
          simp only [Act.put, List.setIfInBounds_toArray, List.set_cons_zero, List.set_cons_succ]
          refine takeV (i := 16) (d := 76) (v := .int .i64 (sY : Int)) rfl (by kernel_rfl) (by kernel_rfl) (by kernel_rfl) (fun _ _ _ h => h) rfl (fun w' h => exLoad rfl (loadRkI g9 1 w' (sY : Int) ((K12.out.ext h).cell 1))) B_13.out ?_
          simp only [Act.put, List.setIfInBounds_toArray, List.set_cons_zero, List.set_cons_succ]
          refine wpAnyH_all (rs := [14]) (by kernel_rfl) (by simp) ?_
          intro i hi
          simp only [List.mem_cons, List.not_mem_nil, or_false] at hi
          subst hi
          refine wpOp_of rfl rfl (wp_called (args := #[.pointer (some ⟨d, 0, none⟩)]) hcS (by simp only [List.map_toArray, List.map_cons, List.map_nil]; rfl) (HSU.out w_6 B_13.out) ?_)
          rintro e w_16 ⟨rfl, rfl⟩
          refine ⟨_, rfl, B_13.out, ?_⟩
          simp only [Act.put, List.setIfInBounds_toArray, List.set_cons_zero, List.set_cons_succ]
          refine takeV (i := 17) (d := 77) (v := .bool true) rfl (by kernel_rfl) (by kernel_rfl) (by kernel_rfl) (fun _ _ _ h => h) rfl (fun w' _ => exBin rfl rfl (by rfl) (eqInt30 _ w')) B_13.out ?_
          simp only [Act.put, List.setIfInBounds_toArray, List.set_cons_zero, List.set_cons_succ]
          refine takeV (i := 18) (d := 78) (v := .bool true) rfl (by kernel_rfl) (by kernel_rfl) (by kernel_rfl) (fun _ _ _ h => h) rfl (fun _ _ => exPickT (v := .bool true) rfl rfl) B_13.out ?_
          simp only [Act.put, List.setIfInBounds_toArray, List.set_cons_zero, List.set_cons_succ]
          refine takeV (i := 19) (d := 79) (v := .bool true) rfl (by kernel_rfl) (by kernel_rfl) (by kernel_rfl) (fun _ _ _ h => h) rfl (fun _ _ => exMove (v := .bool true) rfl) B_13.out ?_
          simp only [Act.put, List.setIfInBounds_toArray, List.set_cons_zero, List.set_cons_succ]
          refine takeV (i := 20) (d := 80) (v := .pointer (some ⟨lb, 0, none⟩)) rfl (by kernel_rfl) (by kernel_rfl) (by kernel_rfl) (fun _ _ _ h => h) rfl (fun _ _ => exMove (v := .pointer (some ⟨lb, 0, none⟩)) rfl) B_13.out ?_
          simp only [Act.put, List.setIfInBounds_toArray, List.set_cons_zero, List.set_cons_succ]
          refine takeV (i := 22) (d := 82) (v := .slice A2 nL c2) rfl (by kernel_rfl) (by kernel_rfl) (by kernel_rfl) (fun _ _ _ h => h) rfl (fun _ _ => exMove (v := .slice A2 nL c2) rfl) B_13.out ?_
          simp only [Act.put, List.setIfInBounds_toArray, List.set_cons_zero, List.set_cons_succ]
          refine takeV (i := 23) (d := 83) (v := .int .i64 ((nL : Nat) : Int)) rfl (by kernel_rfl) (by kernel_rfl) (by kernel_rfl) (fun _ _ _ h => h) rfl (fun _ _ => exLen Tryz.underlying28 rfl) B_13.out ?_
          simp only [Act.put, List.setIfInBounds_toArray, List.set_cons_zero, List.set_cons_succ]
          refine wpAnyH_all (rs := [21]) (by kernel_rfl) (by simp) ?_
          intro i hi
          simp only [List.mem_cons, List.not_mem_nil, or_false] at hi
          subst hi
          refine wpOp_of rfl rfl (wp_called (args := #[.pointer (some ⟨lb, 0, none⟩)]) hcL (by simp only [List.map_toArray, List.map_cons, List.map_nil]; rfl) (HLN.out w_6 B_13.out) ?_)
          rintro e w_17 ⟨rfl, rfl⟩
          refine ⟨_, rfl, B_13.out, ?_⟩
          simp only [Act.put, List.setIfInBounds_toArray, List.set_cons_zero, List.set_cons_succ]
          refine takeV (i := 24) (d := 84) (v := .bool true) rfl (by kernel_rfl) (by kernel_rfl) (by kernel_rfl) (fun _ _ _ h => h) rfl (fun w' _ => exBin rfl rfl (by rfl) (eqInt30 _ w')) B_13.out ?_
          simp only [Act.put, List.setIfInBounds_toArray, List.set_cons_zero, List.set_cons_succ]
          refine takeV (i := 25) (d := 85) (v := .bool true) rfl (by kernel_rfl) (by kernel_rfl) (by kernel_rfl) (fun _ _ _ h => h) rfl (fun _ _ => exPickT (v := .bool true) rfl rfl) B_13.out ?_
          simp only [Act.put, List.setIfInBounds_toArray, List.set_cons_zero, List.set_cons_succ]
          refine takeV (i := 26) (d := 86) (v := .bool true) rfl (by kernel_rfl) (by kernel_rfl) (by kernel_rfl) (fun _ _ _ h => h) rfl (fun _ _ => exMove (v := .bool true) rfl) B_13.out ?_
          simp only [Act.put, List.setIfInBounds_toArray, List.set_cons_zero, List.set_cons_succ]
          refine takeV (i := 27) (d := 87) (v := .pointer (some ⟨lb, 0, none⟩)) rfl (by kernel_rfl) (by kernel_rfl) (by kernel_rfl) (fun _ _ _ h => h) rfl (fun _ _ => exMove (v := .pointer (some ⟨lb, 0, none⟩)) rfl) B_13.out ?_
          simp only [Act.put, List.setIfInBounds_toArray, List.set_cons_zero, List.set_cons_succ]
          refine takeV (i := 29) (d := 89) (v := .slice A2 nL c2) rfl (by kernel_rfl) (by kernel_rfl) (by kernel_rfl) (fun _ _ _ h => h) rfl (fun _ _ => exMove (v := .slice A2 nL c2) rfl) B_13.out ?_
          simp only [Act.put, List.setIfInBounds_toArray, List.set_cons_zero, List.set_cons_succ]
          refine takeV (i := 30) (d := 90) (v := .int .i64 ((nL : Nat) : Int)) rfl (by kernel_rfl) (by kernel_rfl) (by kernel_rfl) (fun _ _ _ h => h) rfl (fun _ _ => exLen Tryz.underlying28 rfl) B_13.out ?_
          simp only [Act.put, List.setIfInBounds_toArray, List.set_cons_zero, List.set_cons_succ]
          refine wpAnyH_all (rs := [28]) (by kernel_rfl) (by simp) ?_
          intro i hi
          simp only [List.mem_cons, List.not_mem_nil, or_false] at hi
          subst hi
          refine wpOp_of rfl rfl (wp_called (args := #[.pointer (some ⟨lb, 0, none⟩)]) hcU (by simp only [List.map_toArray, List.map_cons, List.map_nil]; rfl) (HLS.out w_6 B_13.out) ?_)
          rintro e w_18 ⟨rfl, h_19⟩
          refine ⟨_, rfl, ext_trans B_13.out h_19, ?_⟩
          simp only [Act.put, List.setIfInBounds_toArray, List.set_cons_zero, List.set_cons_succ]
          have B_20 := Lib.hid (ext_trans B_13.out h_19)
          have F_21 := Lib.hid (F_14.out.ext h_19)
          have F_22 := Lib.hid (F_15.out.ext h_19)
          clear B_13 F_14 F_15
          clear h_19
          refine takeV (i := 31) (d := 91) (v := .bool true) rfl (by kernel_rfl) (by kernel_rfl) (by kernel_rfl) (fun _ _ _ h => h) rfl (fun w' _ => exBin rfl rfl (by rfl) (eqInt30 _ w')) B_20.out ?_
          simp only [Act.put, List.setIfInBounds_toArray, List.set_cons_zero, List.set_cons_succ]
          refine takeV (i := 32) (d := 92) (v := .bool true) rfl (by kernel_rfl) (by kernel_rfl) (by kernel_rfl) (fun _ _ _ h => h) rfl (fun _ _ => exPickT (v := .bool true) rfl rfl) B_20.out ?_
          simp only [Act.put, List.setIfInBounds_toArray, List.set_cons_zero, List.set_cons_succ]
          refine takeV (i := 33) (d := 93) (v := .bool true) rfl (by kernel_rfl) (by kernel_rfl) (by kernel_rfl) (fun _ _ _ h => h) rfl (fun _ _ => exMove (v := .bool true) rfl) B_20.out ?_
          simp only [Act.put, List.setIfInBounds_toArray, List.set_cons_zero, List.set_cons_succ]
          refine wpAnyH_all (rs := [34]) (by kernel_rfl) (by simp) ?_
          intro i hi
          simp only [List.mem_cons, List.not_mem_nil, or_false] at hi
          subst hi
          refine wpOp_of rfl rfl (wp_called (args := #[]) hcW (by simp) (works30 w_18 (four_ext F12.out B_20.out)) ?_)
          rintro e w_23 ⟨rfl, h_24⟩
          refine ⟨_, rfl, ext_trans B_20.out h_24, ?_⟩
          simp only [Act.put, List.setIfInBounds_toArray, List.set_cons_zero, List.set_cons_succ]
          have B_25 := Lib.hid (ext_trans B_20.out h_24)
          have F_26 := Lib.hid (F_21.out.ext h_24)
          have F_27 := Lib.hid (F_22.out.ext h_24)
          clear B_20 F_21 F_22
          clear h_24
          refine takeV (i := 35) (d := 95) (v := .bool true) rfl (by kernel_rfl) (by kernel_rfl) (by kernel_rfl) (fun _ _ _ h => h) rfl (fun _ _ => exPickT (v := .bool true) rfl rfl) B_25.out ?_
          simp only [Act.put, List.setIfInBounds_toArray, List.set_cons_zero, List.set_cons_succ]
          refine takeV (i := 36) (d := 4) (v := .bool true) rfl (by kernel_rfl) (by kernel_rfl) (by kernel_rfl) (fun _ _ _ h => h) rfl (fun _ _ => exAssign (v := .bool true) rfl) B_25.out ?_
          simp only [Act.put, List.setIfInBounds_toArray, List.set_cons_zero, List.set_cons_succ]
          refine wpAnyH_done (by kernel_rfl) ?_ _
          have BF := Lib.hid (B12.out.trans (B_25.out.mono B12.out.size))
          clear B_25 F_26 F_27 B12
          go_wp2_with (go_ret; exact ⟨rfl, BF.out⟩)
end Go.Proofs.YtdafiipedlglpaaGreatDoor
