/- Texts of general use, one behind another. -/
import Derived.Test.YtdafiipedlglpaaGreatDoorCens
import Derived.Test.YtdafiipedlglpaaGreatDoorGen
import Derived.Test.YtdafiipedlglpaaGreatDoorRpg
import Derived.Test.YtdafiipedlglpaaGreatDoorIdxw
import Derived.Test.YtdafiipedlglpaaGreatDoorRgw
import Derived.Test.YtdafiipedlglpaaGreatDoorRgs

/- The document's side of a census: how many operations of a kind; what one patch adds: walked. -/
namespace Go.Proofs.YtdafiipedlglpaaGreatDoor
open Go.RowKit

set_option maxRecDepth 100000 in
set_option maxHeartbeats 4000000 in
theorem rops_any (p : PatV) (cs : List Value) (w : World) (hp : PatAt w cs p) (kd : Nat) : Calls Tryz.prog 121 #[.agg cs.toArray, .int .u8 (kd : Int)] w (RetB w (.int .i64 ((kindN kd p.2.2 : Nat) : Int))) := by
  obtain ⟨⟨Ap, cp, Ao, co, e0, _, hpo⟩, _, hml⟩ := id hp
  have hz3 : cs.toArray[3]? = some (.slice Ao p.2.2.length co) := by rw [e0]; rfl
  have K1 : Hid (Blk (w.alloc (.cells cs.toArray 64)) w.heap.size 64 cs.toArray) := Blk.new _ _ _
  have B1 : Hid (Below w.heap.size w (w.alloc (.cells cs.toArray 64))) := below_new _ _
  have y3 : (w.alloc (.cells cs.toArray 64)).cell? ⟨w.heap.size, 3, none⟩ = some (.slice Ao p.2.2.length co) := (K1.out.cell 3).trans hz3
  have O1 := Lib.hid (hpo.ext B1.out)
  clear e0 hpo hz3 hp
  unfold maxLen at hml
  obtain ⟨ops, hops⟩ : ∃ l, l = p.2.2 := ⟨_, rfl⟩
  rw [← hops] at O1 y3 hml ⊢
  clear hops
  obtain ⟨nl, hnl⟩ : ∃ n, n = ops.length := ⟨_, rfl⟩
  rw [← hnl] at O1 y3 hml
  replace hnl := Lib.hid hnl
  go_enter Tryz.func121, Tryz.ntmps121
  go_upto_region 1 with fail
  generalize (w.alloc (.cells cs.toArray 64)) = w1 at *
  obtain ⟨g1, hg1⟩ : ∃ g, g = w.heap.size := ⟨_, rfl⟩
  rw [← hg1] at y3 K1 ⊢
  clear hg1
  go_wp2_with fail
  go_loop [5, 6] (fun nv iv => ∃ j : Nat, j ≤ nl ∧ iv = .int .i64 ((j : Nat) : Int) ∧ nv = .int .i64 ((kindN kd (ops.take j) : Nat) : Int)) (fun _ iv => nl - (intOf iv).toNat)
  case atStart => exact ⟨0, Nat.zero_le _, rfl, rfl⟩
  case round =>
    obtain ⟨j, hj, rfl, rfl⟩ := hrel
    have hj0 : (0 : Int) ≤ (j : Int) := by omega
    by_cases hjt : j < nl
    · have hjk : (j : Int) < (nl : Int) := by omega
      obtain ⟨bo, oo, x, rfl, hbo, hx, hr, -⟩ := O1.out.at_ hjt
      have q0 : w1.cell? ⟨bo, oo + j * 8, none⟩ = some (.int .u8 ((x.1.val : Nat) : Int)) := by simpa using hr 0 _ rfl
      have hkb : kindN kd (ops.take j) ≤ j := by have h1 := kindN_le kd (ops.take j); rw [List.length_take] at h1; omega
      have S := Lib.hid (kindN_snoc kd hx)
      obtain ⟨q, hq⟩ : ∃ q, q = kindN kd (ops.take j) := ⟨_, rfl⟩
      rw [← hq] at hkb S ⊢
      clear hq hr hx
      by_cases hk : x.1.val = kd
      · rw [if_pos hk] at S
        have e1 : ((x.1.val : Nat) : Int) = (kd : Int) := by omega
        rw [e1] at q0
        clear e1 hk
        go_wp2_with fail
        go_round
        case rel => exact ⟨j + 1, by omega, by go_num, by rw [S.out]; go_num⟩
        case measure => simp [intOf]; omega
      · rw [if_neg hk] at S
        have d1 : (((x.1.val : Nat) : Int) == (kd : Int)) = false := beq_eq_false_iff_ne.2 (by omega)
        clear hk
        go_wp2_with fail
        go_round
        case rel => exact ⟨j + 1, by omega, by go_num, by rw [S.out]; rfl⟩
        case measure => simp [intOf]; omega
    · have hjk : ¬ (j : Int) < (nl : Int) := by omega
      rw [List.take_of_length_le (by rw [← hnl.out]; omega)]
      go_wp2_with fail
      go_ret
      exact ⟨rfl, B1.out⟩
theorem row_set {w : World} {g : Nat} {t : TypeId} {r r' : RowR} {i : Nat} {v : Value} (h : Blk w g t (encR r).toArray) (he : encR r' = (encR r).set i v) : Blk (w.setCell ⟨g, i, none⟩ v) g t (encR r').toArray := by
  have h1 := h.set_ i v
  rw [he]
  simpa using h1
theorem fieldRR (g : Nat) (i : Nat) (hi : i < 9) (w : World) : (Instr.fieldAt 109 (.pointer (some ⟨g, 0, none⟩)) i).run Tryz.prog w = .ok (.pointer (some ⟨g, i, none⟩)) w := by
  match i, hi with
  | 0, _ => simp [go_sem]
  | 1, _ => simp [go_sem]
  | 2, _ => simp [go_sem]
  | 3, _ => simp [go_sem]
  | 4, _ => simp [go_sem]
  | 5, _ => simp [go_sem]
  | 6, _ => simp [go_sem]
  | 7, _ => simp [go_sem]
  | 8, _ => simp [go_sem]
theorem loadI54 (b o : Nat) (w : World) (z : Int) (h : w.cell? ⟨b, o, none⟩ = some (.int .i64 z)) : (Instr.loadAt 3 (.pointer (some ⟨b, o, none⟩))).run Tryz.prog w = .ok (.int .i64 z) w := by simp [go_sem, h]
theorem storeI54 (b o : Nat) (w : World) (z : Int) {u : Value} (h : w.cell? ⟨b, o, none⟩ = some u) (hf : w.frozen? ⟨b, o, none⟩ = false) : (Instr.storeAt 3 (.pointer (some ⟨b, o, none⟩)) (.int .i64 z)).run Tryz.prog w = .ok () (w.setCell ⟨b, o, none⟩ (.int .i64 z)) := by simp [go_sem, h, hf]
theorem add54 (a b : Int) (w : World) (h : -9223372036854775808 ≤ a + b ∧ a + b ≤ 9223372036854775807) : (binOp .add 3 (.int .i64 a) (.int .i64 b)).run Tryz.prog w = .ok (.int .i64 (a + b)) w := by
  have e := IntWalk.i64_in (a + b) h
  simp [go_sem, e]
end Go.Proofs.YtdafiipedlglpaaGreatDoor

/- The document's rows of patches: walked. -/
namespace Go.Proofs.YtdafiipedlglpaaGreatDoor
open Go.RowKit

theorem rowM_put (a : Nat) (M : List PatV) (p : PatV) (ha : p.1.1.val = a) : rowM a (M ++ [p]) 0 = addR (rowM a M 0) p := by
  unfold rowM addR
  simp only [kindS_snoc, bytesS_snoc, List.length_append, List.length_cons, List.length_nil, ha]
  simp
theorem rowM_ok {M : List PatV} (h : ∀ p ∈ M, patB p = true) (hl : M.length ≤ 20) {a : Nat} (ha : a < 256) : RowOk (rowM a M 0) := by
  have h1 := bytesS_le h
  have k1 := kindS_le h 1
  have k2 := kindS_le h 2
  have k3 := kindS_le h 3
  have k4 := kindS_le h 4
  have k5 := kindS_le h 5
  unfold RowOk rowM bigR
  simp only
  omega
theorem patsIn_both54 {w : World} {G : Nat → Prop} {A : Option Addr} {n : Nat} {l : List PatV} (h : PatsIn w G A n l) : PatsIn w (fun q => G q ∧ q < w.heap.size) A n l := by
  obtain ⟨rows, h1, h2⟩ := h.ex
  refine ⟨h.len, fun hn b o ea => ⟨h.inb hn b o ea, ?_⟩, rows, ⟨h1.1, fun k r p e1 e2 => (h1.2 k r p e1 e2).both20⟩, h2⟩
  obtain ⟨b', o', e', hb, _⟩ := h2.2 hn
  rw [ea] at e'; injection e' with e'; injection e' with e1 _; rw [e1]; exact hb
theorem buildG54 (w : World) : (Instr.build 182 #[]).run Tryz.prog w = .ok (.agg #[.slice none 0 0]) w := by kernel_rfl
theorem patsNil54 (w : World) (G : Nat → Prop) : PatsIn w G none 0 [] := ⟨rfl, fun h => absurd h (Nat.lt_irrefl 0), [], RowsIn.nil w G, by simp [Sl]⟩
theorem buildRR (k : Int) (w : World) : (Instr.build 109 #[(0, .int .u8 k)]).run Tryz.prog w = .ok (.agg (encR (k, 0, 0, 0, 0, 0, 0, 0, 0)).toArray) w := by kernel_rfl
theorem allocRR (w : World) : (Instr.alloc 109 true (.tuple #[])).run Tryz.prog w = .ok (.pointer (some ⟨w.heap.size, 0, none⟩)) (w.alloc (.cells (encR zeroR).toArray 109)) := by kernel_rfl
theorem underRR : Tryz.prog.underlying 109 = some (.struct (Tryz.prog.fieldsOf 109)) := by kernel_rfl
theorem infoRR : (Tryz.prog.info? 109).map (·.size) = some 9 := by kernel_rfl
theorem rrSl : SlT Tryz.prog 87 109 9 72 := slT_of Tryz.underlying87 (z := .agg (encR zeroR).toArray) (by kernel_rfl) rfl (by omega)
set_option maxRecDepth 100000 in
set_option maxHeartbeats 16000000 in
theorem rof54_any (l : List PatV) (w : World) (A : Option Addr) (n c : Nat) (h : PatsAt w A n l) (hn : n ≤ 20) :
    Calls Tryz.prog 49 #[.slice A n c] w (OwnedRet w 109 9 (rowsC (runG [] l)).length ((rowsC (runG [] l)).flatMap encR)) := by
  have H0 := Lib.hid h
  have hln := Lib.hid h.len
  clear h
  go_enter Tryz.func49, Tryz.ntmps49
  have KX0 : Hid (Blk ((w.alloc (.cells #[.slice none 0 0] 182)).setRow w.heap.size #[.slice none 0 0]) w.heap.size 182 #[.slice none 0 0]) := (Blk.new _ _ _).row _
  have BN : Hid (Below w.heap.size w ((w.alloc (.cells #[.slice none 0 0] 182)).setRow w.heap.size #[.slice none 0 0])) := below_setRow (below_new w _) (Nat.le_refl _) _
  go_upto_region 2 with (first
    | (refine wpList_built (buildG54 _) (by rfl) ?_)
    | (refine wpList_alloced (allocG20 _) ?_)
    | (refine wpList_store_row rfl 182 _ _ (by rfl) w.heap.size #[.slice none 0 0] (by rfl) (by rfl) _ _ (Blk.new _ _ _) infoG20 rfl (by simp [Value.oneCell']) ?_))
  generalize ((w.alloc (.cells #[.slice none 0 0] 182)).setRow w.heap.size #[.slice none 0 0]) = w1 at *
  obtain ⟨gx, hgx⟩ : ∃ g, g = w.heap.size := ⟨_, rfl⟩
  rw [← hgx] at KX0 ⊢
  replace hgx := Lib.hid hgx
  have hcA : ∀ args u, (callFunc 119 args).run Tryz.prog u = .ok (.enter 119 args) u := enters_of Tryz.func119 (by kernel_rfl) rfl
  go_wp2_with fail
  go_loopw [4] (fun iv wr => ∃ (k : Nat) (Ax : Option Addr) (cx : Nat) (L : List PatV), k ≤ n ∧ iv = .int .i64 ((k : Nat) : Int) ∧ Hid (L = runG [] (l.take k)) ∧ Hid (Blk wr gx 182 #[.slice Ax L.length cx]) ∧ Hid (PatsIn wr (fun q => q ≠ gx) Ax L.length L) ∧ Hid (Below w.heap.size w wr)) (fun iv _ => n - (intOf iv).toNat)
  case atStart => exact ⟨0, none, 0, [], Nat.zero_le _, rfl, rfl, KX0.out, patsNil54 _ _, BN.out⟩
  case round =>
    clear KX0 BN
    obtain ⟨k, Ax, cx, L, hk, rfl, hL, KX, PX, B⟩ := hrel
    obtain ⟨wi, rfl⟩ : ∃ wx, wx = wr := ⟨_, rfl⟩
    have hk0 : (0 : Int) ≤ (k : Int) := by omega
    have hGO : Hid (GrOk L) := by rw [Hid, hL.out]; exact runG_ok _ _ .nil
    have hL20 : Hid (L.length ≤ 20) := by
      have h2 := runG_few54 (l.take k)
      rw [List.length_take, hln.out] at h2
      rw [Hid, hL.out]; omega
    by_cases hlt : k < n
    · have hlk : (k : Int) < (n : Int) := by omega
      obtain ⟨b, o, p, rp, rfl, hb, hp, pa, R⟩ := H0.out.at_ hlt
      have hi4 : (Tryz.prog.info? 64).map (·.size) = some rp.length := by rw [pa.len4]; exact infoPat
      have RP := Lib.hid (rangeAt_below R B.out hb)
      have hbl : Hid (b < wi.heap.size) := Nat.lt_of_lt_of_le hb B.out.size
      have NL : Hid (grL L p = runG [] (l.take (k + 1))) := by rw [Hid, runG_snoc [] hp, ← hL.out]
      have HN : Hid (∀ q, wi.heap.size ≤ q → q ≠ gx) := fun q e e2 => by have := KX.out.lt; omega
      have PIN : Hid (PatIn wi (fun q => q ≠ gx ∧ q < wi.heap.size) rp p) := (pa.in_.ext B.out).mono fun q e => ⟨by have := hgx.out; omega, Nat.lt_of_lt_of_le e B.out.size⟩
      have PXB := Lib.hid (patsIn_both54 PX.out)
      have ELq := Lib.hid (refL_eq hGO.out p)
      have HA := Lib.hid (fun (u : World) (hu : Below wi.heap.size wi u) => rapply20_any L p u (fun q => q ≠ gx ∧ q < wi.heap.size) (fun q e => Nat.lt_of_lt_of_le e.2 hu.size) Ax L.length cx (PXB.out.ext hu) rp (PIN.out.ext hu) (by have := hL20.out; omega))
      have HIX : Hid (∀ u : World, (Instr.indexAt 28 (.slice (some ⟨b, o, none⟩) n c) (.int .i64 ((k : Nat) : Int))).run Tryz.prog u = .ok (.pointer (some ⟨b, o + k * 4, none⟩)) u) := fun u => indexPats20r b o n c k hlt u
      clear R hb hp PX pa
      go_upto_region 5 with fail
      go_cut [5, 6] (fun pv _ wx => ∃ gy Ay cy, pv = .pointer (some ⟨gy, 0, none⟩) ∧ Blk wx gy 182 #[.slice Ay (grL L p).length cy] ∧ PatsIn wx (fun q => q ≠ gx) Ay (grL L p).length (grL L p) ∧ Below wi.heap.size wi wx)
      case first =>
        refine wp_region_held (S := fun w' => Below wi.heap.size wi w') mixedS ?_
        change wpAnyH _ _ _ _ _ _ _ _ wi.drew
        have BD : Hid (Below wi.heap.size wi wi.drew) := (Below.refl _ _).drew
        generalize wi.drew = wd at *
        simp only [List.size_toArray, List.length_cons, List.length_nil]
        refine takeV (i := 0) (d := 22) (v := .agg #[.slice Ax L.length cx]) rfl (by kernel_rfl) (by kernel_rfl) (by kernel_rfl) (fun _ _ _ h => h) rfl (fun w' h => exMid rfl (blk_pat (cs := [.slice Ax L.length cx]) (KX.out.ext h)) underG20 rfl infoG20) BD.out ?_
        simp only [Act.put, List.setIfInBounds_toArray, List.set_cons_zero, List.set_cons_succ]
        refine takeV (i := 1) (d := 23) (v := .slice (some ⟨b, o, none⟩) n c) rfl (by kernel_rfl) (by kernel_rfl) (by kernel_rfl) (fun _ _ _ h => h) rfl (fun _ _ => exMove (v := .slice (some ⟨b, o, none⟩) n c) rfl) BD.out ?_
        simp only [Act.put, List.setIfInBounds_toArray, List.set_cons_zero, List.set_cons_succ]
        refine takeV (i := 2) (d := 24) (v := .int .i64 ((k : Nat) : Int)) rfl (by kernel_rfl) (by kernel_rfl) (by kernel_rfl) (fun _ _ _ h => h) rfl (fun _ _ => exMove (v := .int .i64 ((k : Nat) : Int)) rfl) BD.out ?_
        simp only [Act.put, List.setIfInBounds_toArray, List.set_cons_zero, List.set_cons_succ]
        refine takeV (i := 3) (d := 25) (v := .pointer (some ⟨b, o + k * 4, none⟩)) rfl (by kernel_rfl) (by kernel_rfl) (by kernel_rfl) (fun _ _ _ h => h) rfl (fun w' _ => exIndex rfl rfl (HIX.out w')) BD.out ?_
        simp only [Act.put, List.setIfInBounds_toArray, List.set_cons_zero, List.set_cons_succ]
        refine takeV (i := 4) (d := 26) (v := .agg rp.toArray) rfl (by kernel_rfl) (by kernel_rfl) (by kernel_rfl) (fun _ _ _ h => h) rfl (fun w' h => exMid rfl (rangeAt_below RP.out h hbl.out) underPat rfl hi4) BD.out ?_
        simp only [Act.put, List.setIfInBounds_toArray, List.set_cons_zero, List.set_cons_succ]
        refine wpAnyH_all (rs := [5, 9]) (by kernel_rfl) (by simp) ?_
        intro i hi
        simp only [List.mem_cons, List.not_mem_nil, or_false] at hi
        rcases hi with rfl | rfl
        · refine wpOp_of rfl rfl (wp_called (args := #[.agg #[.slice Ax L.length cx], .agg rp.toArray]) hcA (by simp only [List.map_toArray, List.map_cons, List.map_nil]; rfl) (HA.out wd BD.out) ?_)
          rintro e w_1 ⟨A_2, c_3, rfl, p_5, h_4⟩
          rw [ELq.out] at p_5 ⊢
          have X_6 : Hid (PatsIn w_1 (fun q => q ≠ gx) A_2 (grL L p).length (grL L p)) := p_5.mono fun q e => e.elim (fun e => e.1) (fun e => HN.out q (Nat.le_trans BD.out.size e))
          refine ⟨_, rfl, ext_trans BD.out h_4, ?_⟩
          simp only [Act.put, List.setIfInBounds_toArray, List.set_cons_zero, List.set_cons_succ]
          have B_7 := Lib.hid (ext_trans BD.out h_4)
          clear BD
          clear h_4 p_5
          refine takeV (i := 6) (d := 21) (v := .tuple #[.agg #[.slice A_2 (grL L p).length c_3], .int .i64 ((refK L p : Nat) : Int)]) rfl (by kernel_rfl) (by kernel_rfl) (by kernel_rfl) (fun _ _ _ h => h) rfl (fun _ _ => exMove (v := .tuple #[.agg #[.slice A_2 (grL L p).length c_3], .int .i64 ((refK L p : Nat) : Int)]) rfl) B_7.out ?_
          simp only [Act.put, List.setIfInBounds_toArray, List.set_cons_zero, List.set_cons_succ]
          refine takeV (i := 7) (d := 28) (v := .agg #[.slice A_2 (grL L p).length c_3]) rfl (by kernel_rfl) (by kernel_rfl) (by kernel_rfl) (fun _ _ _ h => h) rfl (fun _ _ => exExtract (v := .agg #[.slice A_2 (grL L p).length c_3]) rfl rfl) B_7.out ?_
          simp only [Act.put, List.setIfInBounds_toArray, List.set_cons_zero, List.set_cons_succ]
          refine takeV (i := 8) (d := 29) (v := .int .i64 ((refK L p : Nat) : Int)) rfl (by kernel_rfl) (by kernel_rfl) (by kernel_rfl) (fun _ _ _ h => h) rfl (fun _ _ => exExtract (v := .int .i64 ((refK L p : Nat) : Int)) rfl rfl) B_7.out ?_
          simp only [Act.put, List.setIfInBounds_toArray, List.set_cons_zero, List.set_cons_succ]
          refine wpAnyH_all (rs := [9]) (by kernel_rfl) (by simp) ?_
          intro i hi
          simp only [List.mem_cons, List.not_mem_nil, or_false] at hi
          subst hi
          have Y_8 : Hid (PatsIn w_1 (fun q => q ≠ w_1.heap.size ∧ q ≠ gx) A_2 (grL L p).length (grL L p)) := (patsIn_both54 X_6.out).mono fun q e => ⟨Nat.ne_of_lt e.2, e.1⟩
          clear X_6
          refine wpOp_of rfl rfl (wp_alloced (allocG20 _) ?_)
          refine ⟨ext_trans B_7.out (below_new _ _), ?_⟩
          simp only [Act.put, List.setIfInBounds_toArray, List.set_cons_zero, List.set_cons_succ]
          have K_9 : Hid (Blk (w_1.alloc (.cells #[.slice none 0 0] 182)) w_1.heap.size 182 #[.slice none 0 0]) := Blk.new _ _ _
          have h_10 : Below w_1.heap.size w_1 (w_1.alloc (.cells #[.slice none 0 0] 182)) := below_new _ _
          have gz_12 : Hid (wi.heap.size ≤ w_1.heap.size) := B_7.out.size
          generalize (w_1.alloc (.cells #[.slice none 0 0] 182)) = w_11 at *
          have B_14 := Lib.hid (ext_trans B_7.out h_10)
          have F_15 := Lib.hid (Y_8.out.ext h_10)
          clear B_7 Y_8
          clear h_10
          generalize w_1.heap.size = g_13 at *
          refine wpAnyH_all (rs := [10]) (by kernel_rfl) (by simp) ?_
          intro i hi
          simp only [List.mem_cons, List.not_mem_nil, or_false] at hi
          subst hi
          have K_16 := Lib.hid (K_9.out.row #[.slice A_2 (grL L p).length c_3])
          have X_17 : Hid (PatsIn (w_11.setRow g_13 #[.slice A_2 (grL L p).length c_3]) (fun q => q ≠ gx) A_2 (grL L p).length (grL L p)) := patsIn_far F_15.out _
          have B_18 := Lib.hid (below_setRow B_14.out gz_12.out #[.slice A_2 (grL L p).length c_3])
          refine wpOp_of rfl rfl (wp_stored (cs := #[.slice A_2 (grL L p).length c_3]) rfl rfl K_9.out infoG20 rfl (by simp [Value.oneCell']) ?_)
          refine ⟨B_18.out, ?_⟩
          clear B_14 F_15 K_9
          refine takeV (i := 11) (d := 6) (v := .int .i64 ((refK L p : Nat) : Int)) rfl (by kernel_rfl) (by kernel_rfl) (by kernel_rfl) (fun _ _ _ h => h) rfl (fun _ _ => exAssign (v := .int .i64 ((refK L p : Nat) : Int)) rfl) B_18.out ?_
          simp only [Act.put, List.setIfInBounds_toArray, List.set_cons_zero, List.set_cons_succ]
          refine wpAnyH_done (by kernel_rfl) ?_ _
          go_wp2_with fail
          go_meet
          case rel => exact ⟨_, _, _, rfl, K_16.out, X_17.out, B_18.out⟩
        · refine wpOp_of rfl rfl (wp_alloced (allocG20 _) ?_)
          refine ⟨ext_trans BD.out (below_new _ _), ?_⟩
          simp only [Act.put, List.setIfInBounds_toArray, List.set_cons_zero, List.set_cons_succ]
          have K_19 : Hid (Blk (wd.alloc (.cells #[.slice none 0 0] 182)) wd.heap.size 182 #[.slice none 0 0]) := Blk.new _ _ _
          have h_20 : Below wd.heap.size wd (wd.alloc (.cells #[.slice none 0 0] 182)) := below_new _ _
          have gz_22 : Hid (wi.heap.size ≤ wd.heap.size) := BD.out.size
          generalize (wd.alloc (.cells #[.slice none 0 0] 182)) = w_21 at *
          have B_24 := Lib.hid (ext_trans BD.out h_20)
          clear BD
          clear h_20
          generalize wd.heap.size = g_23 at *
          refine wpAnyH_all (rs := [5]) (by kernel_rfl) (by simp) ?_
          intro i hi
          simp only [List.mem_cons, List.not_mem_nil, or_false] at hi
          subst hi
          refine wpOp_of rfl rfl (wp_called (args := #[.agg #[.slice Ax L.length cx], .agg rp.toArray]) hcA (by simp only [List.map_toArray, List.map_cons, List.map_nil]; rfl) (HA.out w_21 B_24.out) ?_)
          rintro e w_25 ⟨A_26, c_27, rfl, p_29, h_28⟩
          rw [ELq.out] at p_29 ⊢
          have X_30 : Hid (PatsIn w_25 (fun q => q ≠ g_23 ∧ q ≠ gx) A_26 (grL L p).length (grL L p)) := p_29.mono fun q e => e.elim (fun e => ⟨fun e2 => by have := gz_22.out; have := e.2; omega, e.1⟩) (fun e => ⟨fun e2 => by have := K_19.out.lt; omega, HN.out q (Nat.le_trans B_24.out.size e)⟩)
          refine ⟨_, rfl, ext_trans B_24.out h_28, ?_⟩
          simp only [Act.put, List.setIfInBounds_toArray, List.set_cons_zero, List.set_cons_succ]
          have B_31 := Lib.hid (ext_trans B_24.out h_28)
          have F_32 := Lib.hid (K_19.out.ext h_28)
          clear B_24 K_19
          clear h_28 p_29
          refine takeV (i := 6) (d := 21) (v := .tuple #[.agg #[.slice A_26 (grL L p).length c_27], .int .i64 ((refK L p : Nat) : Int)]) rfl (by kernel_rfl) (by kernel_rfl) (by kernel_rfl) (fun _ _ _ h => h) rfl (fun _ _ => exMove (v := .tuple #[.agg #[.slice A_26 (grL L p).length c_27], .int .i64 ((refK L p : Nat) : Int)]) rfl) B_31.out ?_
          simp only [Act.put, List.setIfInBounds_toArray, List.set_cons_zero, List.set_cons_succ]
          refine takeV (i := 7) (d := 28) (v := .agg #[.slice A_26 (grL L p).length c_27]) rfl (by kernel_rfl) (by kernel_rfl) (by kernel_rfl) (fun _ _ _ h => h) rfl (fun _ _ => exExtract (v := .agg #[.slice A_26 (grL L p).length c_27]) rfl rfl) B_31.out ?_
          simp only [Act.put, List.setIfInBounds_toArray, List.set_cons_zero, List.set_cons_succ]
          refine takeV (i := 8) (d := 29) (v := .int .i64 ((refK L p : Nat) : Int)) rfl (by kernel_rfl) (by kernel_rfl) (by kernel_rfl) (fun _ _ _ h => h) rfl (fun _ _ => exExtract (v := .int .i64 ((refK L p : Nat) : Int)) rfl rfl) B_31.out ?_
          simp only [Act.put, List.setIfInBounds_toArray, List.set_cons_zero, List.set_cons_succ]
          refine wpAnyH_all (rs := [10]) (by kernel_rfl) (by simp) ?_
          intro i hi
          simp only [List.mem_cons, List.not_mem_nil, or_false] at hi
          subst hi
          have K_33 := Lib.hid (F_32.out.row #[.slice A_26 (grL L p).length c_27])
          have X_34 : Hid (PatsIn (w_25.setRow g_23 #[.slice A_26 (grL L p).length c_27]) (fun q => q ≠ gx) A_26 (grL L p).length (grL L p)) := patsIn_far X_30.out _
          have B_35 := Lib.hid (below_setRow B_31.out gz_22.out #[.slice A_26 (grL L p).length c_27])
          refine wpOp_of rfl rfl (wp_stored (cs := #[.slice A_26 (grL L p).length c_27]) rfl rfl F_32.out infoG20 rfl (by simp [Value.oneCell']) ?_)
          refine ⟨B_35.out, ?_⟩
          clear B_31 F_32 X_30
          refine takeV (i := 11) (d := 6) (v := .int .i64 ((refK L p : Nat) : Int)) rfl (by kernel_rfl) (by kernel_rfl) (by kernel_rfl) (fun _ _ _ h => h) rfl (fun _ _ => exAssign (v := .int .i64 ((refK L p : Nat) : Int)) rfl) B_35.out ?_
          simp only [Act.put, List.setIfInBounds_toArray, List.set_cons_zero, List.set_cons_succ]
          refine wpAnyH_done (by kernel_rfl) ?_ _
          go_wp2_with fail
          go_meet
          case rel => exact ⟨_, _, _, rfl, K_33.out, X_34.out, B_35.out⟩
      case rest =>
        obtain ⟨gy, Ay, cy, rfl, ky, px, bx⟩ := hcut
        obtain ⟨wx, rfl⟩ : ∃ wx, wx = wc := ⟨_, rfl⟩
        have KY := Lib.hid ky
        have KX2 := Lib.hid ((KX.out.ext bx).row #[.slice Ay (grL L p).length cy])
        have KX1 := Lib.hid (KX.out.ext bx)
        have kp : Kept (fun q => q = gx) wx (wx.setRow gx #[.slice Ay (grL L p).length cy]) := kept_row (fun q => q = gx) wx rfl _
        have PX2 := Lib.hid (px.stay (kp.stay fun q _ e1 e2 => e1 e2))
        have B2 := Lib.hid ((B.out.trans (bx.mono B.out.size)).trans (kp.below (fun q e => by have e : q = gx := e; have := hgx.out; omega) (Nat.le_trans B.out.size bx.size)))
        clear ky px bx kp KX B RP hbl HN PIN PXB HA HIX ELq hi4
        go_wp2_with (first
          | (refine wpList_load_row rfl 182 _ (by rfl) gy (by rfl) _ _ _ _ KY.out underG20 rfl infoG20 ?_)
          | (refine wpList_store_row rfl 182 _ _ (by rfl) gx #[.slice Ay (grL L p).length cy] (by rfl) (by rfl) _ _ KX1.out infoG20 rfl (by simp [Value.oneCell']) ?_))
        go_roundw
        case rel => exact ⟨k + 1, Ay, cy, grL L p, by omega, by go_num, NL.out, KX2.out, PX2.out, B2.out⟩
        case measure => simp [intOf]; omega
    · have hlk : ¬ (k : Int) < (n : Int) := by omega
      rw [List.take_of_length_le (by rw [hln.out]; omega)] at hL
      have hgood : Hid (∀ p ∈ L, patB p = true) := hGO.out.good
      have hops : ∀ p ∈ L, p.2.2.length ≤ 200 := fun p hp => hGO.out.few hp
      have hau : Hid (∀ p ∈ L, 1 ≤ p.1.1.val) := fun p hp => (hGO.out.auth hp).1
      have HV := Lib.hid (rverts20_any L wi Ax L.length cx PX.out.at_ (by have := hL20.out; omega) hops)
      have hVl : (vertsL L).length ≤ 80000 := vertsL_few hGO.out (by have := hL20.out; omega)
      clear hops
      go_wp2_with (refine wpList_load_row rfl 182 _ (by rfl) gx (by rfl) _ _ _ _ KX.out underG20 rfl infoG20 ?_)
      refine HV.out.mono ?_
      rintro e w8 ⟨v, rfl, own, b8⟩
      obtain ⟨V, hV⟩ : ∃ V, V = vertsL L := ⟨_, rfl⟩
      rw [← hV] at own hVl
      replace hV := Lib.hid hV
      obtain ⟨m, hm⟩ : ∃ m, m = V.length := ⟨_, rfl⟩
      rw [← hm] at own hVl
      obtain ⟨AV, cV, rfl, -, va⟩ := VertsAt.of_own own hm.symm
      replace hm := Lib.hid hm
      obtain ⟨nl, hnl⟩ : ∃ n, n = L.length := ⟨_, rfl⟩
      have hl20 : nl ≤ 20 := by have := hL20.out; omega
      have KX8 := Lib.hid (KX.out.ext b8)
      have PX8 := Lib.hid (PX.out.at_.ext b8)
      rw [← hnl] at KX8 PX8
      replace hnl := Lib.hid hnl
      have VA8 := Lib.hid va
      have B8 := Lib.hid (B.out.trans (b8.mono B.out.size))
      clear va own b8 HV KX PX B
      have hcB : ∀ args u, (callFunc 108 args).run Tryz.prog u = .ok (.enter 108 args) u := enters_of Tryz.func108 (by kernel_rfl) rfl
      have hcK : ∀ args u, (callFunc 121 args).run Tryz.prog u = .ok (.enter 121 args) u := enters_of Tryz.func121 (by kernel_rfl) rfl
      go_wp2_with fail
      go_loopw [8, 9] (fun ov av wr => ∃ (a : Nat) (R : List RowR), 1 ≤ a ∧ a ≤ 65 ∧ av = .int .i64 ((a : Nat) : Int) ∧ Hid (R = rowsTo L (a - 1)) ∧ Hid (wr.ownsRow w8.heap.size 109 9 ov R.length (R.flatMap encR)) ∧ Hid (Below w8.heap.size w8 wr)) (fun _ av _ => 65 - (intOf av).toNat)
      case atStart => exact ⟨1, [], Nat.le_refl _, by omega, rfl, rfl, World.ownsRow_nil _ _ _ _, Below.refl _ _⟩
      case round =>
        obtain ⟨a, R, ha1, ha65, rfl, hR, own, B⟩ := hrel
        obtain ⟨wb, rfl⟩ : ∃ x, x = wr := ⟨_, rfl⟩
        have ha0 : (0 : Int) ≤ (a : Int) := by omega
        by_cases hlt : a ≤ 64
        · have hlk : (a : Int) ≤ 64 := by omega
          have xw : IntKind.u8.wrap (a : Int) = (a : Int) := IntWalk.u8_in _ (by omega)
          have KZ : Hid (Blk (wb.alloc (.cells (encR zeroR).toArray 109)) wb.heap.size 109 (encR zeroR).toArray) := Blk.new _ _ _
          have KN : Hid (Blk ((wb.alloc (.cells (encR zeroR).toArray 109)).setRow wb.heap.size (encR ((a : Int), 0, 0, 0, 0, 0, 0, 0, 0)).toArray) wb.heap.size 109 (encR (rowM a (ofA (L.take 0) a) 0)).toArray) := KZ.out.row _
          have BN : Hid (Below wb.heap.size wb ((wb.alloc (.cells (encR zeroR).toArray 109)).setRow wb.heap.size (encR ((a : Int), 0, 0, 0, 0, 0, 0, 0, 0)).toArray)) := below_setRow (below_new wb _) (Nat.le_refl _) _
          go_upto_region 13 with (first
            | (refine wpList_built (buildRR _ _) (by rfl) ?_)
            | (refine wpList_alloced (allocRR _) ?_)
            | (refine wpList_store_row rfl 109 _ _ (by rfl) wb.heap.size (encR ((a : Int), 0, 0, 0, 0, 0, 0, 0, 0)).toArray (by rfl) (by rfl) _ _ KZ.out infoRR rfl (all_oneCell_toArray (encR_one _)) ?_))
          generalize ((wb.alloc (.cells (encR zeroR).toArray 109)).setRow wb.heap.size (encR ((a : Int), 0, 0, 0, 0, 0, 0, 0, 0)).toArray) = w10 at *
          obtain ⟨g10, hg⟩ : ∃ g, g = wb.heap.size := ⟨_, rfl⟩
          rw [← hg] at KN ⊢
          have hg10 : Hid (wb.heap.size ≤ g10) := by rw [Hid, hg]; exact Nat.le_refl _
          clear hg KZ xw
          go_wp2_with fail
          go_loopw [11] (fun iv ws => ∃ i : Nat, i ≤ nl ∧ iv = .int .i64 ((i : Nat) : Int) ∧ Hid (Blk ws g10 109 (encR (rowM a (ofA (L.take i) a) 0)).toArray) ∧ Hid (Below wb.heap.size wb ws)) (fun iv _ => nl - (intOf iv).toNat)
          case atStart => exact ⟨0, Nat.zero_le _, rfl, KN.out, BN.out⟩
          case round =>
            clear KN BN
            obtain ⟨i, hi, rfl, KR, BK⟩ := hrel
            have hi0 : (0 : Int) ≤ (i : Int) := by omega
            have BW := Lib.hid (B.out.trans (BK.out.mono B.out.size))
            have yx : wr.cell? ⟨gx, 0, none⟩ = some (.slice Ax nl cx) := (KX8.out.ext BW.out).cell 0
            by_cases hit : i < nl
            · have hik : (i : Int) < (nl : Int) := by omega
              obtain ⟨b2, o2, p, rp, rfl, hb2, hx, pa, R2⟩ := PX8.out.at_ hit
              have hi4 : (Tryz.prog.info? 64).map (·.size) = some rp.length := by rw [pa.len4]; exact infoPat
              have hi5 : (Tryz.prog.info? 64).map (·.size) = some rp.toArray.size := by rw [List.size_toArray]; exact hi4
              have hone := all_oneCell_toArray pa.one
              have hz4 : (#[.int .u8 0, .int .u16 0, .slice none 0 0, .slice none 0 0] : Array Value).size = rp.toArray.size := by
                show 4 = rp.toArray.size
                rw [List.size_toArray, pa.len4]
              have RP := Lib.hid (rangeAt_below R2 BW.out hb2)
              have z0 : Hid (rp.toArray[0]? = some (.int .u8 ((p.1.1.val : Nat) : Int))) := by
                obtain ⟨⟨A1, c1, A2, c2, e, _⟩, _, _⟩ := pa
                rw [Hid, e]; rfl
              have PA : Hid (∀ u, Below wb.heap.size wb u → PatAt u rp p) := fun u hu => (pa.ext B.out).ext hu
              have hpb : Hid (patB p = true) := hgood.out p (List.mem_of_getElem? hx)
              have TS : Hid (L.take (i + 1) = L.take i ++ [p]) := by rw [Hid, List.take_add_one, hx]; rfl
              have KZ : Hid (Blk (wr.alloc (.cells #[.int .u8 0, .int .u16 0, .slice none 0 0, .slice none 0 0] 64)) wr.heap.size 64 #[.int .u8 0, .int .u16 0, .slice none 0 0, .slice none 0 0]) := Blk.new _ _ _
              have KP : Hid (Blk ((wr.alloc (.cells #[.int .u8 0, .int .u16 0, .slice none 0 0, .slice none 0 0] 64)).setRow wr.heap.size rp.toArray) wr.heap.size 64 rp.toArray) := KZ.out.row _
              have BN : Hid (Below wr.heap.size wr ((wr.alloc (.cells #[.int .u8 0, .int .u16 0, .slice none 0 0, .slice none 0 0] 64)).setRow wr.heap.size rp.toArray)) := below_setRow (below_new wr _) (Nat.le_refl _) _
              clear pa hx hb2 R2
              go_upto_region 17 with (first
                | (refine wpList_load_mid rfl 64 _ (by rfl) b2 (o2 + i * 4) (by rfl) _ _ RP.out underPat rfl hi4 ?_)
                | (refine wpList_alloced (allocPat54 _) ?_)
                | (refine wpList_store_row rfl 64 _ _ (by rfl) wr.heap.size rp.toArray (by rfl) (by rfl) _ _ KZ.out hi5 hz4 hone ?_))
              have hpg : Hid (wr.heap.size ≠ g10) := by have := KR.out.lt; rw [Hid]; omega
              replace KR := Lib.hid (KR.out.ext BN.out)
              replace BK := Lib.hid (BK.out.trans (BN.out.mono BK.out.size))
              generalize ((wr.alloc (.cells #[.int .u8 0, .int .u16 0, .slice none 0 0, .slice none 0 0] 64)).setRow wr.heap.size rp.toArray) = wq at *
              generalize wr.heap.size = gp at *
              clear KZ BN RP yx hi5 hone hz4 BW
              have y0 : wq.cell? ⟨gp, 0, none⟩ = some (.int .u8 ((p.1.1.val : Nat) : Int)) := (KP.out.cell 0).trans z0.out
              by_cases ha : p.1.1.val = a
              · have e0 : ((p.1.1.val : Nat) : Int) = (a : Int) := by omega
                rw [e0] at y0
                have MS : Hid (rowM a (ofA (L.take (i + 1)) a) 0 = addR (rowM a (ofA (L.take i) a) 0) p) := by
                  rw [Hid, TS.out]
                  have h1 := ofA_snoc_eq (L.take i) p
                  rw [ha] at h1
                  rw [h1]
                  exact rowM_put a _ p ha
                have RK : Hid (RowOk (rowM a (ofA (L.take i) a) 0)) := rowM_ok (M := ofA (L.take i) a) (fun q hq => hgood.out q (List.mem_of_mem_take (List.mem_filter.1 hq).1)) (by
                  have h1 := ofA_len (L.take i) a
                  rw [List.length_take] at h1
                  omega) (by omega)
                obtain ⟨r, hr⟩ : ∃ r, r = rowM a (ofA (L.take i) a) 0 := ⟨_, rfl⟩
                have hr1 : Hid (r.1 = ((p.1.1.val : Nat) : Int)) := by rw [Hid, hr, e0]; rfl
                rw [← hr] at RK KR MS
                clear hr e0 ha z0 TS
                obtain ⟨nb, hnb⟩ : ∃ n, n = (patBytes p).length := ⟨_, rfl⟩
                have hnums : Hid (nb ≤ 20000 ∧ kindN 1 p.2.2 ≤ 200 ∧ kindN 2 p.2.2 ≤ 200 ∧ kindN 3 p.2.2 ≤ 200 ∧ kindN 4 p.2.2 ≤ 200 ∧ kindN 5 p.2.2 ≤ 200) := by
                  have h1 := patBytes_len hpb.out
                  have h2 := (patB_parts hpb.out).2.2.1
                  have k1 := kindN_le 1 p.2.2
                  have k2 := kindN_le 2 p.2.2
                  have k3 := kindN_le 3 p.2.2
                  have k4 := kindN_le 4 p.2.2
                  have k5 := kindN_le 5 p.2.2
                  rw [Hid]; omega
                replace hnb := Lib.hid hnb
                go_upto_region 18 with fail
                clear y0
                have hbd : -9223372036854775808 ≤ r.2.1 + 1 ∧ r.2.1 + 1 ≤ 9223372036854775807 := by have := RK.out; unfold RowOk bigR at this; omega
                have xw : IntKind.i64.wrap (r.2.1 + 1) = r.2.1 + 1 := IntWalk.i64_in _ hbd
                have y1 : wq.cell? ⟨g10, 1, none⟩ = some (.int .i64 r.2.1) := KR.out.cell 1
                have f1 : wq.frozen? ⟨g10, 1, none⟩ = false := KR.out.fr 1
                go_upto_region 19 with fail
                clear xw y1 f1 hbd
                replace KR : Hid (Blk (wq.setCell ⟨g10, 1, none⟩ (.int .i64 (r.2.1 + 1))) g10 109 (encR (r.1, r.2.1 + 1, r.2.2)).toArray) := row_set KR.out rfl
                replace KP := Lib.hid (KP.out.far (p := ⟨g10, 1, none⟩) hpg.out (.int .i64 (r.2.1 + 1)))
                replace BK := Lib.hid (below_setCell BK.out (p := ⟨g10, 1, none⟩) hg10.out (u := .int .i64 (r.2.1 + 1)))
                generalize (wq.setCell ⟨g10, 1, none⟩ (.int .i64 (r.2.1 + 1))) = wq at *
                have hbd : -9223372036854775808 ≤ r.2.2.1 + (nb : Int) ∧ r.2.2.1 + (nb : Int) ≤ 9223372036854775807 := by have := RK.out; unfold RowOk bigR at this; have := hnums.out; omega
                refine wp_region_Z (S := fun w' => Below wq.heap.size wq w') (Z := [7]) mixedS ?_
                have B_0 : Hid (Below wq.heap.size wq wq.drew) := (Below.refl _ _).drew
                change wpAnyZ _ _ _ _ _ _ _ _ _ wq.drew
                generalize wq.drew = wd at *
                simp only [List.size_toArray, List.length_cons, List.length_nil]
                refine zV (i := 0) rfl (by kernel_rfl) (by kernel_rfl) (by kernel_rfl) (by kernel_rfl) (by kernel_rfl) (fun _ _ _ h => h) rfl (fun w' _ => exField rfl (fieldRR g10 2 (by omega) w')) B_0.out ?_
                simp only [Act.put, List.setIfInBounds_toArray, List.set_cons_zero, List.set_cons_succ]
                refine zV (i := 1) rfl (by kernel_rfl) (by kernel_rfl) (by kernel_rfl) (by kernel_rfl) (by kernel_rfl) (fun _ _ _ h => h) rfl (fun w' h => exLoad rfl (loadI54 g10 2 w' (r.2.2.1) ((KR.out.ext h).cell 2))) B_0.out ?_
                simp only [Act.put, List.setIfInBounds_toArray, List.set_cons_zero, List.set_cons_succ]
                refine zV (i := 2) rfl (by kernel_rfl) (by kernel_rfl) (by kernel_rfl) (by kernel_rfl) (by kernel_rfl) (fun _ _ _ h => h) rfl (fun w' h => exMid rfl (blk_pat (KP.out.ext h)) underPat rfl hi4) B_0.out ?_
                simp only [Act.put, List.setIfInBounds_toArray, List.set_cons_zero, List.set_cons_succ]
                refine wpAnyZ_all (rs := [3]) (by kernel_rfl) (by simp) ?_
                intro i hi
                simp only [List.mem_cons, List.not_mem_nil, or_false] at hi
                subst hi
                refine wpOp_of rfl rfl (wp_called (args := #[.agg rp.toArray]) hcB (by simp only [List.map_toArray, List.map_cons, List.map_nil]; rfl) (rbytes19_any p hpb.out wd rp (PA.out wd (BK.out.trans (B_0.out.mono BK.out.size)))) ?_)
                rintro e we ⟨v9, rfl, own9, b_1⟩
                rw [← hnb.out] at own9
                obtain ⟨A9, c9, rfl, -, -⟩ := Sl.of_own own9
                have B_1 := Lib.hid (ext_trans B_0.out b_1)
                refine ⟨_, rfl, fun _ => B_1.out, ?_⟩
                simp only [Act.put, List.setIfInBounds_toArray, List.set_cons_zero, List.set_cons_succ]
                clear own9
                refine zV (i := 4) rfl (by kernel_rfl) (by kernel_rfl) (by kernel_rfl) (by kernel_rfl) (by kernel_rfl) (fun _ _ _ h => h) rfl (fun _ _ => exLen Tryz.underlying35 rfl) B_1.out ?_
                simp only [Act.put, List.setIfInBounds_toArray, List.set_cons_zero, List.set_cons_succ]
                refine zV (i := 5) rfl (by kernel_rfl) (by kernel_rfl) (by kernel_rfl) (by kernel_rfl) (by kernel_rfl) (fun _ _ _ h => h) rfl (fun w' _ => exBin (v := .int .i64 (r.2.2.1 + (nb : Int))) rfl rfl (by rfl) (add54 _ _ w' hbd)) B_1.out ?_
                simp only [Act.put, List.setIfInBounds_toArray, List.set_cons_zero, List.set_cons_succ]
                refine zV (i := 6) rfl (by kernel_rfl) (by kernel_rfl) (by kernel_rfl) (by kernel_rfl) (by kernel_rfl) (fun _ _ _ h => h) rfl (fun w' _ => exField rfl (fieldRR g10 2 (by omega) w')) B_1.out ?_
                simp only [Act.put, List.setIfInBounds_toArray, List.set_cons_zero, List.set_cons_succ]
                have KR1 := Lib.hid (KR.out.ext B_1.out)
                refine wpAnyZ_all (rs := [7]) (by kernel_rfl) (by simp) ?_
                intro i hi
                simp only [List.mem_cons, List.not_mem_nil, or_false] at hi
                subst hi
                refine wpOp_of rfl rfl (wpStored1 rfl rfl (storeI54 g10 2 we (r.2.2.1 + (nb : Int)) (KR1.out.cell 2) (KR1.out.fr 2)) ?_)
                refine ⟨noZ (by kernel_rfl), ?_⟩
                refine wpAnyZ_done (by kernel_rfl) ?_ _
                replace KR : Hid (Blk (we.setCell ⟨g10, 2, none⟩ (.int .i64 (r.2.2.1 + (nb : Int)))) g10 109 (encR (r.1, r.2.1 + 1, r.2.2.1 + (nb : Int), r.2.2.2)).toArray) := row_set KR1.out rfl
                replace KP := Lib.hid ((KP.out.ext B_1.out).far (p := ⟨g10, 2, none⟩) hpg.out (.int .i64 (r.2.2.1 + (nb : Int))))
                replace BK := Lib.hid (below_setCell (BK.out.trans (B_1.out.mono BK.out.size)) (p := ⟨g10, 2, none⟩) hg10.out (u := .int .i64 (r.2.2.1 + (nb : Int))))
                clear B_0 B_1 b_1 KR1 hbd
                generalize (we.setCell ⟨g10, 2, none⟩ (.int .i64 (r.2.2.1 + (nb : Int)))) = wq at *
                go_upto_region 20 with fail
                have hbd : -9223372036854775808 ≤ r.2.2.2.1 + ((kindN 1 p.2.2 : Nat) : Int) ∧ r.2.2.2.1 + ((kindN 1 p.2.2 : Nat) : Int) ≤ 9223372036854775807 := by have := RK.out; unfold RowOk bigR at this; have := hnums.out; omega
                refine wp_region_Z (S := fun w' => Below wq.heap.size wq w') (Z := [6]) mixedS ?_
                have B_0 : Hid (Below wq.heap.size wq wq.drew) := (Below.refl _ _).drew
                change wpAnyZ _ _ _ _ _ _ _ _ _ wq.drew
                generalize wq.drew = wd at *
                simp only [List.size_toArray, List.length_cons, List.length_nil]
                refine zV (i := 0) rfl (by kernel_rfl) (by kernel_rfl) (by kernel_rfl) (by kernel_rfl) (by kernel_rfl) (fun _ _ _ h => h) rfl (fun w' _ => exField rfl (fieldRR g10 3 (by omega) w')) B_0.out ?_
                simp only [Act.put, List.setIfInBounds_toArray, List.set_cons_zero, List.set_cons_succ]
                refine zV (i := 1) rfl (by kernel_rfl) (by kernel_rfl) (by kernel_rfl) (by kernel_rfl) (by kernel_rfl) (fun _ _ _ h => h) rfl (fun w' h => exLoad rfl (loadI54 g10 3 w' (r.2.2.2.1) ((KR.out.ext h).cell 3))) B_0.out ?_
                simp only [Act.put, List.setIfInBounds_toArray, List.set_cons_zero, List.set_cons_succ]
                refine zV (i := 2) rfl (by kernel_rfl) (by kernel_rfl) (by kernel_rfl) (by kernel_rfl) (by kernel_rfl) (fun _ _ _ h => h) rfl (fun w' h => exMid rfl (blk_pat (KP.out.ext h)) underPat rfl hi4) B_0.out ?_
                simp only [Act.put, List.setIfInBounds_toArray, List.set_cons_zero, List.set_cons_succ]
                refine wpAnyZ_all (rs := [3]) (by kernel_rfl) (by simp) ?_
                intro i hi
                simp only [List.mem_cons, List.not_mem_nil, or_false] at hi
                subst hi
                refine wpOp_of rfl rfl (wp_called (args := #[.agg rp.toArray, .int .u8 1]) hcK (by simp only [List.map_toArray, List.map_cons, List.map_nil]; rfl) (rops_any p rp wd (PA.out wd (BK.out.trans (B_0.out.mono BK.out.size))) 1) ?_)
                rintro e we ⟨rfl, b_1⟩
                have B_1 := Lib.hid (ext_trans B_0.out b_1)
                refine ⟨_, rfl, fun _ => B_1.out, ?_⟩
                simp only [Act.put, List.setIfInBounds_toArray, List.set_cons_zero, List.set_cons_succ]
                refine zV (i := 4) rfl (by kernel_rfl) (by kernel_rfl) (by kernel_rfl) (by kernel_rfl) (by kernel_rfl) (fun _ _ _ h => h) rfl (fun w' _ => exBin (v := .int .i64 (r.2.2.2.1 + ((kindN 1 p.2.2 : Nat) : Int))) rfl rfl (by rfl) (add54 _ _ w' hbd)) B_1.out ?_
                simp only [Act.put, List.setIfInBounds_toArray, List.set_cons_zero, List.set_cons_succ]
                refine zV (i := 5) rfl (by kernel_rfl) (by kernel_rfl) (by kernel_rfl) (by kernel_rfl) (by kernel_rfl) (fun _ _ _ h => h) rfl (fun w' _ => exField rfl (fieldRR g10 3 (by omega) w')) B_1.out ?_
                simp only [Act.put, List.setIfInBounds_toArray, List.set_cons_zero, List.set_cons_succ]
                have KR1 := Lib.hid (KR.out.ext B_1.out)
                refine wpAnyZ_all (rs := [6]) (by kernel_rfl) (by simp) ?_
                intro i hi
                simp only [List.mem_cons, List.not_mem_nil, or_false] at hi
                subst hi
                refine wpOp_of rfl rfl (wpStored1 rfl rfl (storeI54 g10 3 we (r.2.2.2.1 + ((kindN 1 p.2.2 : Nat) : Int)) (KR1.out.cell 3) (KR1.out.fr 3)) ?_)
                refine ⟨noZ (by kernel_rfl), ?_⟩
                refine wpAnyZ_done (by kernel_rfl) ?_ _
                replace KR : Hid (Blk (we.setCell ⟨g10, 3, none⟩ (.int .i64 (r.2.2.2.1 + ((kindN 1 p.2.2 : Nat) : Int)))) g10 109 (encR (r.1, r.2.1 + 1, r.2.2.1 + (nb : Int), r.2.2.2.1 + ((kindN 1 p.2.2 : Nat) : Int), r.2.2.2.2)).toArray) := row_set KR1.out rfl
                replace KP := Lib.hid ((KP.out.ext B_1.out).far (p := ⟨g10, 3, none⟩) hpg.out (.int .i64 (r.2.2.2.1 + ((kindN 1 p.2.2 : Nat) : Int))))
                replace BK := Lib.hid (below_setCell (BK.out.trans (B_1.out.mono BK.out.size)) (p := ⟨g10, 3, none⟩) hg10.out (u := .int .i64 (r.2.2.2.1 + ((kindN 1 p.2.2 : Nat) : Int))))
                clear B_0 B_1 b_1 KR1 hbd
                generalize (we.setCell ⟨g10, 3, none⟩ (.int .i64 (r.2.2.2.1 + ((kindN 1 p.2.2 : Nat) : Int)))) = wq at *
                go_upto_region 21 with fail
                have hbd : -9223372036854775808 ≤ r.2.2.2.2.1 + ((kindN 2 p.2.2 : Nat) : Int) ∧ r.2.2.2.2.1 + ((kindN 2 p.2.2 : Nat) : Int) ≤ 9223372036854775807 := by have := RK.out; unfold RowOk bigR at this; have := hnums.out; omega
                refine wp_region_Z (S := fun w' => Below wq.heap.size wq w') (Z := [6]) mixedS ?_
                have B_0 : Hid (Below wq.heap.size wq wq.drew) := (Below.refl _ _).drew
                change wpAnyZ _ _ _ _ _ _ _ _ _ wq.drew
                generalize wq.drew = wd at *
                simp only [List.size_toArray, List.length_cons, List.length_nil]
                refine zV (i := 0) rfl (by kernel_rfl) (by kernel_rfl) (by kernel_rfl) (by kernel_rfl) (by kernel_rfl) (fun _ _ _ h => h) rfl (fun w' _ => exField rfl (fieldRR g10 4 (by omega) w')) B_0.out ?_
                simp only [Act.put, List.setIfInBounds_toArray, List.set_cons_zero, List.set_cons_succ]
                refine zV (i := 1) rfl (by kernel_rfl) (by kernel_rfl) (by kernel_rfl) (by kernel_rfl) (by kernel_rfl) (fun _ _ _ h => h) rfl (fun w' h => exLoad rfl (loadI54 g10 4 w' (r.2.2.2.2.1) ((KR.out.ext h).cell 4))) B_0.out ?_
                simp only [Act.put, List.setIfInBounds_toArray, List.set_cons_zero, List.set_cons_succ]
                refine zV (i := 2) rfl (by kernel_rfl) (by kernel_rfl) (by kernel_rfl) (by kernel_rfl) (by kernel_rfl) (fun _ _ _ h => h) rfl (fun w' h => exMid rfl (blk_pat (KP.out.ext h)) underPat rfl hi4) B_0.out ?_
                simp only [Act.put, List.setIfInBounds_toArray, List.set_cons_zero, List.set_cons_succ]
                refine wpAnyZ_all (rs := [3]) (by kernel_rfl) (by simp) ?_
                intro i hi
                simp only [List.mem_cons, List.not_mem_nil, or_false] at hi
                subst hi
                refine wpOp_of rfl rfl (wp_called (args := #[.agg rp.toArray, .int .u8 2]) hcK (by simp only [List.map_toArray, List.map_cons, List.map_nil]; rfl) (rops_any p rp wd (PA.out wd (BK.out.trans (B_0.out.mono BK.out.size))) 2) ?_)
                rintro e we ⟨rfl, b_1⟩
                have B_1 := Lib.hid (ext_trans B_0.out b_1)
                refine ⟨_, rfl, fun _ => B_1.out, ?_⟩
                simp only [Act.put, List.setIfInBounds_toArray, List.set_cons_zero, List.set_cons_succ]
                refine zV (i := 4) rfl (by kernel_rfl) (by kernel_rfl) (by kernel_rfl) (by kernel_rfl) (by kernel_rfl) (fun _ _ _ h => h) rfl (fun w' _ => exBin (v := .int .i64 (r.2.2.2.2.1 + ((kindN 2 p.2.2 : Nat) : Int))) rfl rfl (by rfl) (add54 _ _ w' hbd)) B_1.out ?_
                simp only [Act.put, List.setIfInBounds_toArray, List.set_cons_zero, List.set_cons_succ]
                refine zV (i := 5) rfl (by kernel_rfl) (by kernel_rfl) (by kernel_rfl) (by kernel_rfl) (by kernel_rfl) (fun _ _ _ h => h) rfl (fun w' _ => exField rfl (fieldRR g10 4 (by omega) w')) B_1.out ?_
                simp only [Act.put, List.setIfInBounds_toArray, List.set_cons_zero, List.set_cons_succ]
                have KR1 := Lib.hid (KR.out.ext B_1.out)
                refine wpAnyZ_all (rs := [6]) (by kernel_rfl) (by simp) ?_
                intro i hi
                simp only [List.mem_cons, List.not_mem_nil, or_false] at hi
                subst hi
                refine wpOp_of rfl rfl (wpStored1 rfl rfl (storeI54 g10 4 we (r.2.2.2.2.1 + ((kindN 2 p.2.2 : Nat) : Int)) (KR1.out.cell 4) (KR1.out.fr 4)) ?_)
                refine ⟨noZ (by kernel_rfl), ?_⟩
                refine wpAnyZ_done (by kernel_rfl) ?_ _
                replace KR : Hid (Blk (we.setCell ⟨g10, 4, none⟩ (.int .i64 (r.2.2.2.2.1 + ((kindN 2 p.2.2 : Nat) : Int)))) g10 109 (encR (r.1, r.2.1 + 1, r.2.2.1 + (nb : Int), r.2.2.2.1 + ((kindN 1 p.2.2 : Nat) : Int), r.2.2.2.2.1 + ((kindN 2 p.2.2 : Nat) : Int), r.2.2.2.2.2)).toArray) := row_set KR1.out rfl
                replace KP := Lib.hid ((KP.out.ext B_1.out).far (p := ⟨g10, 4, none⟩) hpg.out (.int .i64 (r.2.2.2.2.1 + ((kindN 2 p.2.2 : Nat) : Int))))
                replace BK := Lib.hid (below_setCell (BK.out.trans (B_1.out.mono BK.out.size)) (p := ⟨g10, 4, none⟩) hg10.out (u := .int .i64 (r.2.2.2.2.1 + ((kindN 2 p.2.2 : Nat) : Int))))
                clear B_0 B_1 b_1 KR1 hbd
                generalize (we.setCell ⟨g10, 4, none⟩ (.int .i64 (r.2.2.2.2.1 + ((kindN 2 p.2.2 : Nat) : Int)))) = wq at *
                go_upto_region 22 with fail
                have hbd : -9223372036854775808 ≤ r.2.2.2.2.2.1 + ((kindN 3 p.2.2 : Nat) : Int) ∧ r.2.2.2.2.2.1 + ((kindN 3 p.2.2 : Nat) : Int) ≤ 9223372036854775807 := by have := RK.out; unfold RowOk bigR at this; have := hnums.out; omega
                refine wp_region_Z (S := fun w' => Below wq.heap.size wq w') (Z := [6]) mixedS ?_
                have B_0 : Hid (Below wq.heap.size wq wq.drew) := (Below.refl _ _).drew
                change wpAnyZ _ _ _ _ _ _ _ _ _ wq.drew
                generalize wq.drew = wd at *
                simp only [List.size_toArray, List.length_cons, List.length_nil]
                refine zV (i := 0) rfl (by kernel_rfl) (by kernel_rfl) (by kernel_rfl) (by kernel_rfl) (by kernel_rfl) (fun _ _ _ h => h) rfl (fun w' _ => exField rfl (fieldRR g10 5 (by omega) w')) B_0.out ?_
                simp only [Act.put, List.setIfInBounds_toArray, List.set_cons_zero, List.set_cons_succ]
                refine zV (i := 1) rfl (by kernel_rfl) (by kernel_rfl) (by kernel_rfl) (by kernel_rfl) (by kernel_rfl) (fun _ _ _ h => h) rfl (fun w' h => exLoad rfl (loadI54 g10 5 w' (r.2.2.2.2.2.1) ((KR.out.ext h).cell 5))) B_0.out ?_
                simp only [Act.put, List.setIfInBounds_toArray, List.set_cons_zero, List.set_cons_succ]
                refine zV (i := 2) rfl (by kernel_rfl) (by kernel_rfl) (by kernel_rfl) (by kernel_rfl) (by kernel_rfl) (fun _ _ _ h => h) rfl (fun w' h => exMid rfl (blk_pat (KP.out.ext h)) underPat rfl hi4) B_0.out ?_
                simp only [Act.put, List.setIfInBounds_toArray, List.set_cons_zero, List.set_cons_succ]
                refine wpAnyZ_all (rs := [3]) (by kernel_rfl) (by simp) ?_
                intro i hi
                simp only [List.mem_cons, List.not_mem_nil, or_false] at hi
                subst hi
                refine wpOp_of rfl rfl (wp_called (args := #[.agg rp.toArray, .int .u8 3]) hcK (by simp only [List.map_toArray, List.map_cons, List.map_nil]; rfl) (rops_any p rp wd (PA.out wd (BK.out.trans (B_0.out.mono BK.out.size))) 3) ?_)
                rintro e we ⟨rfl, b_1⟩
                have B_1 := Lib.hid (ext_trans B_0.out b_1)
                refine ⟨_, rfl, fun _ => B_1.out, ?_⟩
                simp only [Act.put, List.setIfInBounds_toArray, List.set_cons_zero, List.set_cons_succ]
                refine zV (i := 4) rfl (by kernel_rfl) (by kernel_rfl) (by kernel_rfl) (by kernel_rfl) (by kernel_rfl) (fun _ _ _ h => h) rfl (fun w' _ => exBin (v := .int .i64 (r.2.2.2.2.2.1 + ((kindN 3 p.2.2 : Nat) : Int))) rfl rfl (by rfl) (add54 _ _ w' hbd)) B_1.out ?_
                simp only [Act.put, List.setIfInBounds_toArray, List.set_cons_zero, List.set_cons_succ]
                refine zV (i := 5) rfl (by kernel_rfl) (by kernel_rfl) (by kernel_rfl) (by kernel_rfl) (by kernel_rfl) (fun _ _ _ h => h) rfl (fun w' _ => exField rfl (fieldRR g10 5 (by omega) w')) B_1.out ?_
                simp only [Act.put, List.setIfInBounds_toArray, List.set_cons_zero, List.set_cons_succ]
                have KR1 := Lib.hid (KR.out.ext B_1.out)
                refine wpAnyZ_all (rs := [6]) (by kernel_rfl) (by simp) ?_
                intro i hi
                simp only [List.mem_cons, List.not_mem_nil, or_false] at hi
                subst hi
                refine wpOp_of rfl rfl (wpStored1 rfl rfl (storeI54 g10 5 we (r.2.2.2.2.2.1 + ((kindN 3 p.2.2 : Nat) : Int)) (KR1.out.cell 5) (KR1.out.fr 5)) ?_)
                refine ⟨noZ (by kernel_rfl), ?_⟩
                refine wpAnyZ_done (by kernel_rfl) ?_ _
                replace KR : Hid (Blk (we.setCell ⟨g10, 5, none⟩ (.int .i64 (r.2.2.2.2.2.1 + ((kindN 3 p.2.2 : Nat) : Int)))) g10 109 (encR (r.1, r.2.1 + 1, r.2.2.1 + (nb : Int), r.2.2.2.1 + ((kindN 1 p.2.2 : Nat) : Int), r.2.2.2.2.1 + ((kindN 2 p.2.2 : Nat) : Int), r.2.2.2.2.2.1 + ((kindN 3 p.2.2 : Nat) : Int), r.2.2.2.2.2.2)).toArray) := row_set KR1.out rfl
                replace KP := Lib.hid ((KP.out.ext B_1.out).far (p := ⟨g10, 5, none⟩) hpg.out (.int .i64 (r.2.2.2.2.2.1 + ((kindN 3 p.2.2 : Nat) : Int))))
                replace BK := Lib.hid (below_setCell (BK.out.trans (B_1.out.mono BK.out.size)) (p := ⟨g10, 5, none⟩) hg10.out (u := .int .i64 (r.2.2.2.2.2.1 + ((kindN 3 p.2.2 : Nat) : Int))))
                clear B_0 B_1 b_1 KR1 hbd
                generalize (we.setCell ⟨g10, 5, none⟩ (.int .i64 (r.2.2.2.2.2.1 + ((kindN 3 p.2.2 : Nat) : Int)))) = wq at *
                go_upto_region 23 with fail
                have hbd : -9223372036854775808 ≤ r.2.2.2.2.2.2.1 + ((kindN 4 p.2.2 : Nat) : Int) ∧ r.2.2.2.2.2.2.1 + ((kindN 4 p.2.2 : Nat) : Int) ≤ 9223372036854775807 := by have := RK.out; unfold RowOk bigR at this; have := hnums.out; omega
                refine wp_region_Z (S := fun w' => Below wq.heap.size wq w') (Z := [6]) mixedS ?_
                have B_0 : Hid (Below wq.heap.size wq wq.drew) := (Below.refl _ _).drew
                change wpAnyZ _ _ _ _ _ _ _ _ _ wq.drew
                generalize wq.drew = wd at *
                simp only [List.size_toArray, List.length_cons, List.length_nil]
                refine zV (i := 0) rfl (by kernel_rfl) (by kernel_rfl) (by kernel_rfl) (by kernel_rfl) (by kernel_rfl) (fun _ _ _ h => h) rfl (fun w' _ => exField rfl (fieldRR g10 6 (by omega) w')) B_0.out ?_
                simp only [Act.put, List.setIfInBounds_toArray, List.set_cons_zero, List.set_cons_succ]
                refine zV (i := 1) rfl (by kernel_rfl) (by kernel_rfl) (by kernel_rfl) (by kernel_rfl) (by kernel_rfl) (fun _ _ _ h => h) rfl (fun w' h => exLoad rfl (loadI54 g10 6 w' (r.2.2.2.2.2.2.1) ((KR.out.ext h).cell 6))) B_0.out ?_
                simp only [Act.put, List.setIfInBounds_toArray, List.set_cons_zero, List.set_cons_succ]
                refine zV (i := 2) rfl (by kernel_rfl) (by kernel_rfl) (by kernel_rfl) (by kernel_rfl) (by kernel_rfl) (fun _ _ _ h => h) rfl (fun w' h => exMid rfl (blk_pat (KP.out.ext h)) underPat rfl hi4) B_0.out ?_
                simp only [Act.put, List.setIfInBounds_toArray, List.set_cons_zero, List.set_cons_succ]
                refine wpAnyZ_all (rs := [3]) (by kernel_rfl) (by simp) ?_
                intro i hi
                simp only [List.mem_cons, List.not_mem_nil, or_false] at hi
                subst hi
                refine wpOp_of rfl rfl (wp_called (args := #[.agg rp.toArray, .int .u8 4]) hcK (by simp only [List.map_toArray, List.map_cons, List.map_nil]; rfl) (rops_any p rp wd (PA.out wd (BK.out.trans (B_0.out.mono BK.out.size))) 4) ?_)
                rintro e we ⟨rfl, b_1⟩
                have B_1 := Lib.hid (ext_trans B_0.out b_1)
                refine ⟨_, rfl, fun _ => B_1.out, ?_⟩
                simp only [Act.put, List.setIfInBounds_toArray, List.set_cons_zero, List.set_cons_succ]
                refine zV (i := 4) rfl (by kernel_rfl) (by kernel_rfl) (by kernel_rfl) (by kernel_rfl) (by kernel_rfl) (fun _ _ _ h => h) rfl (fun w' _ => exBin (v := .int .i64 (r.2.2.2.2.2.2.1 + ((kindN 4 p.2.2 : Nat) : Int))) rfl rfl (by rfl) (add54 _ _ w' hbd)) B_1.out ?_
                simp only [Act.put, List.setIfInBounds_toArray, List.set_cons_zero, List.set_cons_succ]
                refine zV (i := 5) rfl (by kernel_rfl) (by kernel_rfl) (by kernel_rfl) (by kernel_rfl) (by kernel_rfl) (fun _ _ _ h => h) rfl (fun w' _ => exField rfl (fieldRR g10 6 (by omega) w')) B_1.out ?_
                simp only [Act.put, List.setIfInBounds_toArray, List.set_cons_zero, List.set_cons_succ]
                have KR1 := Lib.hid (KR.out.ext B_1.out)
                refine wpAnyZ_all (rs := [6]) (by kernel_rfl) (by simp) ?_
                intro i hi
                simp only [List.mem_cons, List.not_mem_nil, or_false] at hi
                subst hi
                refine wpOp_of rfl rfl (wpStored1 rfl rfl (storeI54 g10 6 we (r.2.2.2.2.2.2.1 + ((kindN 4 p.2.2 : Nat) : Int)) (KR1.out.cell 6) (KR1.out.fr 6)) ?_)
                refine ⟨noZ (by kernel_rfl), ?_⟩
                refine wpAnyZ_done (by kernel_rfl) ?_ _
                replace KR : Hid (Blk (we.setCell ⟨g10, 6, none⟩ (.int .i64 (r.2.2.2.2.2.2.1 + ((kindN 4 p.2.2 : Nat) : Int)))) g10 109 (encR (r.1, r.2.1 + 1, r.2.2.1 + (nb : Int), r.2.2.2.1 + ((kindN 1 p.2.2 : Nat) : Int), r.2.2.2.2.1 + ((kindN 2 p.2.2 : Nat) : Int), r.2.2.2.2.2.1 + ((kindN 3 p.2.2 : Nat) : Int), r.2.2.2.2.2.2.1 + ((kindN 4 p.2.2 : Nat) : Int), r.2.2.2.2.2.2.2)).toArray) := row_set KR1.out rfl
                replace KP := Lib.hid ((KP.out.ext B_1.out).far (p := ⟨g10, 6, none⟩) hpg.out (.int .i64 (r.2.2.2.2.2.2.1 + ((kindN 4 p.2.2 : Nat) : Int))))
                replace BK := Lib.hid (below_setCell (BK.out.trans (B_1.out.mono BK.out.size)) (p := ⟨g10, 6, none⟩) hg10.out (u := .int .i64 (r.2.2.2.2.2.2.1 + ((kindN 4 p.2.2 : Nat) : Int))))
                clear B_0 B_1 b_1 KR1 hbd
                generalize (we.setCell ⟨g10, 6, none⟩ (.int .i64 (r.2.2.2.2.2.2.1 + ((kindN 4 p.2.2 : Nat) : Int)))) = wq at *
                go_upto_region 24 with fail
                have hbd : -9223372036854775808 ≤ r.2.2.2.2.2.2.2.1 + ((kindN 5 p.2.2 : Nat) : Int) ∧ r.2.2.2.2.2.2.2.1 + ((kindN 5 p.2.2 : Nat) : Int) ≤ 9223372036854775807 := by have := RK.out; unfold RowOk bigR at this; have := hnums.out; omega
                refine wp_region_Z (S := fun w' => Below wq.heap.size wq w') (Z := [6]) mixedS ?_
                have B_0 : Hid (Below wq.heap.size wq wq.drew) := (Below.refl _ _).drew
                change wpAnyZ _ _ _ _ _ _ _ _ _ wq.drew
                generalize wq.drew = wd at *
                simp only [List.size_toArray, List.length_cons, List.length_nil]
                refine zV (i := 0) rfl (by kernel_rfl) (by kernel_rfl) (by kernel_rfl) (by kernel_rfl) (by kernel_rfl) (fun _ _ _ h => h) rfl (fun w' _ => exField rfl (fieldRR g10 7 (by omega) w')) B_0.out ?_
                simp only [Act.put, List.setIfInBounds_toArray, List.set_cons_zero, List.set_cons_succ]
                refine zV (i := 1) rfl (by kernel_rfl) (by kernel_rfl) (by kernel_rfl) (by kernel_rfl) (by kernel_rfl) (fun _ _ _ h => h) rfl (fun w' h => exLoad rfl (loadI54 g10 7 w' (r.2.2.2.2.2.2.2.1) ((KR.out.ext h).cell 7))) B_0.out ?_
                simp only [Act.put, List.setIfInBounds_toArray, List.set_cons_zero, List.set_cons_succ]
                refine zV (i := 2) rfl (by kernel_rfl) (by kernel_rfl) (by kernel_rfl) (by kernel_rfl) (by kernel_rfl) (fun _ _ _ h => h) rfl (fun w' h => exMid rfl (blk_pat (KP.out.ext h)) underPat rfl hi4) B_0.out ?_
                simp only [Act.put, List.setIfInBounds_toArray, List.set_cons_zero, List.set_cons_succ]
                refine wpAnyZ_all (rs := [3]) (by kernel_rfl) (by simp) ?_
                intro i hi
                simp only [List.mem_cons, List.not_mem_nil, or_false] at hi
                subst hi
                refine wpOp_of rfl rfl (wp_called (args := #[.agg rp.toArray, .int .u8 5]) hcK (by simp only [List.map_toArray, List.map_cons, List.map_nil]; rfl) (rops_any p rp wd (PA.out wd (BK.out.trans (B_0.out.mono BK.out.size))) 5) ?_)
                rintro e we ⟨rfl, b_1⟩
                have B_1 := Lib.hid (ext_trans B_0.out b_1)
                refine ⟨_, rfl, fun _ => B_1.out, ?_⟩
                simp only [Act.put, List.setIfInBounds_toArray, List.set_cons_zero, List.set_cons_succ]
                refine zV (i := 4) rfl (by kernel_rfl) (by kernel_rfl) (by kernel_rfl) (by kernel_rfl) (by kernel_rfl) (fun _ _ _ h => h) rfl (fun w' _ => exBin (v := .int .i64 (r.2.2.2.2.2.2.2.1 + ((kindN 5 p.2.2 : Nat) : Int))) rfl rfl (by rfl) (add54 _ _ w' hbd)) B_1.out ?_
                simp only [Act.put, List.setIfInBounds_toArray, List.set_cons_zero, List.set_cons_succ]
                refine zV (i := 5) rfl (by kernel_rfl) (by kernel_rfl) (by kernel_rfl) (by kernel_rfl) (by kernel_rfl) (fun _ _ _ h => h) rfl (fun w' _ => exField rfl (fieldRR g10 7 (by omega) w')) B_1.out ?_
                simp only [Act.put, List.setIfInBounds_toArray, List.set_cons_zero, List.set_cons_succ]
                have KR1 := Lib.hid (KR.out.ext B_1.out)
                refine wpAnyZ_all (rs := [6]) (by kernel_rfl) (by simp) ?_
                intro i hi
                simp only [List.mem_cons, List.not_mem_nil, or_false] at hi
                subst hi
                refine wpOp_of rfl rfl (wpStored1 rfl rfl (storeI54 g10 7 we (r.2.2.2.2.2.2.2.1 + ((kindN 5 p.2.2 : Nat) : Int)) (KR1.out.cell 7) (KR1.out.fr 7)) ?_)
                refine ⟨noZ (by kernel_rfl), ?_⟩
                refine wpAnyZ_done (by kernel_rfl) ?_ _
                replace KR : Hid (Blk (we.setCell ⟨g10, 7, none⟩ (.int .i64 (r.2.2.2.2.2.2.2.1 + ((kindN 5 p.2.2 : Nat) : Int)))) g10 109 (encR (r.1, r.2.1 + 1, r.2.2.1 + (nb : Int), r.2.2.2.1 + ((kindN 1 p.2.2 : Nat) : Int), r.2.2.2.2.1 + ((kindN 2 p.2.2 : Nat) : Int), r.2.2.2.2.2.1 + ((kindN 3 p.2.2 : Nat) : Int), r.2.2.2.2.2.2.1 + ((kindN 4 p.2.2 : Nat) : Int), r.2.2.2.2.2.2.2.1 + ((kindN 5 p.2.2 : Nat) : Int), r.2.2.2.2.2.2.2.2)).toArray) := row_set KR1.out rfl
                replace KP := Lib.hid ((KP.out.ext B_1.out).far (p := ⟨g10, 7, none⟩) hpg.out (.int .i64 (r.2.2.2.2.2.2.2.1 + ((kindN 5 p.2.2 : Nat) : Int))))
                replace BK := Lib.hid (below_setCell (BK.out.trans (B_1.out.mono BK.out.size)) (p := ⟨g10, 7, none⟩) hg10.out (u := .int .i64 (r.2.2.2.2.2.2.2.1 + ((kindN 5 p.2.2 : Nat) : Int))))
                clear B_0 B_1 b_1 KR1 hbd
                generalize (we.setCell ⟨g10, 7, none⟩ (.int .i64 (r.2.2.2.2.2.2.2.1 + ((kindN 5 p.2.2 : Nat) : Int)))) = wq at *
                have e9 : (r.1, r.2.1 + 1, r.2.2.1 + (nb : Int), r.2.2.2.1 + ((kindN 1 p.2.2 : Nat) : Int), r.2.2.2.2.1 + ((kindN 2 p.2.2 : Nat) : Int), r.2.2.2.2.2.1 + ((kindN 3 p.2.2 : Nat) : Int), r.2.2.2.2.2.2.1 + ((kindN 4 p.2.2 : Nat) : Int), r.2.2.2.2.2.2.2.1 + ((kindN 5 p.2.2 : Nat) : Int), r.2.2.2.2.2.2.2.2) = addR r p := by
                  unfold addR
                  rw [← hr1.out, hnb.out]
                rw [e9, ← MS.out] at KR
                clear e9 MS RK hr1 hnums hnb KP PA
                go_wp2_with fail
                go_roundw
                case rel => exact ⟨i + 1, by omega, by go_num, KR.out, BK.out⟩
                case measure => simp [intOf]; omega
              · have d1 : (((p.1.1.val : Nat) : Int) == (a : Int)) = false := beq_eq_false_iff_ne.2 (by omega)
                have MS : Hid (ofA (L.take (i + 1)) a = ofA (L.take i) a) := by rw [Hid, TS.out]; exact ofA_snoc_ne ha
                clear ha KP PA z0 TS
                go_wp2_with fail
                go_roundw
                case rel => exact ⟨i + 1, by omega, by go_num, by rw [MS.out]; exact KR.out, BK.out⟩
                case measure => simp [intOf]; omega
            · have hik : ¬ (i : Int) < (nl : Int) := by omega
              rw [List.take_of_length_le (by rw [← hnl.out]; omega)] at KR
              clear BW
              go_wp2_with fail
              clear yx
              go_loopw [13] (fun iv ws => ∃ j : Nat, j ≤ m ∧ iv = .int .i64 ((j : Nat) : Int) ∧ Hid (Blk ws g10 109 (encR (rowM a (ofA L a) (aliveA (V.take j) a))).toArray) ∧ Hid (Below wb.heap.size wb ws)) (fun iv _ => m - (intOf iv).toNat)
              case atStart => exact ⟨0, Nat.zero_le _, rfl, KR.out, BK.out⟩
              case round =>
                clear KR BK
                obtain ⟨j, hj, rfl, KR, BK⟩ := hrel
                have hj0 : (0 : Int) ≤ (j : Int) := by omega
                have BW := Lib.hid (B.out.trans (BK.out.mono B.out.size))
                by_cases hjt : j < m
                · have hjk : (j : Int) < (m : Int) := by omega
                  obtain ⟨bv, ov, x, rfl, hbv, hx, hr⟩ := VA8.out.at_ hjt
                  have RX := Lib.hid (rangeAt_below hr BW.out hbv)
                  have q0 : wr.cell? ⟨bv, ov + j * 9, none⟩ = some (.int .u8 ((x.1.1.1.val : Nat) : Int)) := by simpa using RX.out 0 _ rfl
                  have q8 : wr.cell? ⟨bv, ov + j * 9 + 8, none⟩ = some (.bool x.2.2.2.2) := RX.out 8 _ rfl
                  have VS : Hid (V.take (j + 1) = V.take j ++ [x]) := by rw [Hid, List.take_add_one, hx]; rfl
                  have hal : aliveA (V.take j) a ≤ 80000 := by have h1 := aliveA_le (V.take j) a; rw [List.length_take] at h1; omega
                  clear hr hx hbv RX BW
                  by_cases ha : x.1.1.1.val = a
                  · have e0 : ((x.1.1.1.val : Nat) : Int) = (a : Int) := by omega
                    rw [e0] at q0
                    cases hd : x.2.2.2.2
                    · rw [hd] at q8
                      have AS : Hid (aliveA (V.take (j + 1)) a = aliveA (V.take j) a + 1) := by rw [Hid, VS.out, aliveA_snoc, if_pos (by unfold aliveB; rw [hd, decide_eq_true ha]; rfl)]
                      obtain ⟨al, hale⟩ : ∃ al, al = aliveA (V.take j) a := ⟨_, rfl⟩
                      rw [← hale] at hal AS KR
                      have y8 : wr.cell? ⟨g10, 8, none⟩ = some (.int .i64 ((al : Nat) : Int)) := KR.out.cell 8
                      have f8 : wr.frozen? ⟨g10, 8, none⟩ = false := KR.out.fr 8
                      have x8 : IntKind.i64.wrap ((al : Int) + 1) = (al : Int) + 1 := IntWalk.i64_in _ (by omega)
                      have KR2 : Hid (Blk (wr.setCell ⟨g10, 8, none⟩ (.int .i64 ((al : Int) + 1))) g10 109 (encR (rowM a (ofA L a) (al + 1))).toArray) := row_set KR.out (by rfl)
                      have BK2 := Lib.hid (below_setCell BK.out (p := ⟨g10, 8, none⟩) hg10.out (u := .int .i64 ((al : Int) + 1)))
                      clear hale hd ha e0 VS KR BK
                      go_upto_region 27 with fail
                      clear y8 f8 x8 q0 q8
                      generalize (wr.setCell ⟨g10, 8, none⟩ (.int .i64 ((al : Int) + 1))) = wq at *
                      go_wp2_with fail
                      go_roundw
                      case rel => exact ⟨j + 1, by omega, by go_num, by rw [AS.out]; exact KR2.out, BK2.out⟩
                      case measure => simp [intOf]; omega
                    · rw [hd] at q8
                      have AS : Hid (aliveA (V.take (j + 1)) a = aliveA (V.take j) a) := by rw [Hid, VS.out, aliveA_snoc, if_neg (by unfold aliveB; rw [hd]; simp), Nat.add_zero]
                      clear hd ha e0 VS
                      go_wp2_with fail
                      go_roundw
                      case rel => exact ⟨j + 1, by omega, by go_num, by rw [AS.out]; exact KR.out, BK.out⟩
                      case measure => simp [intOf]; omega
                  · have d1 : (((x.1.1.1.val : Nat) : Int) == (a : Int)) = false := beq_eq_false_iff_ne.2 (by omega)
                    have AS : Hid (aliveA (V.take (j + 1)) a = aliveA (V.take j) a) := by rw [Hid, VS.out, aliveA_snoc, if_neg (by unfold aliveB; rw [decide_eq_false ha]; simp), Nat.add_zero]
                    clear ha VS
                    go_wp2_with fail
                    go_roundw
                    case rel => exact ⟨j + 1, by omega, by go_num, by rw [AS.out]; exact KR.out, BK.out⟩
                    case measure => simp [intOf]; omega
                · have hjk : ¬ (j : Int) < (m : Int) := by omega
                  have KR : Hid (Blk wr g10 109 (encR (rowC L a)).toArray) := by
                    have h1 := KR.out
                    rw [List.take_of_length_le (by rw [← hm.out]; omega), hV.out] at h1
                    exact h1
                  have own2 := Lib.hid (own_ext own.out BK.out)
                  have RS := Lib.hid (rowsTo_snoc L (a - 1))
                  rw [show a - 1 + 1 = a by omega, ← hR.out] at RS
                  have hRl : R.length ≤ 64 := by
                    rw [hR.out]
                    unfold rowsTo
                    refine Nat.le_trans (List.length_filter_le _ _) ?_
                    rw [List.length_map, List.length_range]
                    omega
                  obtain ⟨np, hnp⟩ : ∃ n, n = (ofA L a).length := ⟨_, rfl⟩
                  have y1 : wr.cell? ⟨g10, 1, none⟩ = some (.int .i64 ((np : Nat) : Int)) := by rw [hnp]; exact KR.out.cell 1
                  have hha : Hid (hasR (rowC L a) = !decide (((np : Nat) : Int) = 0)) := by rw [hnp]; rfl
                  clear hnp
                  by_cases h0 : np = 0
                  · subst h0
                    have hno : Hid (rowsTo L a = R) := by rw [Hid, RS.out, hha.out, if_neg (by simp), List.append_nil]
                    clear RS hha KR
                    go_wp2_with fail
                    go_roundw
                    case rel => exact ⟨a + 1, R, by omega, by omega, by go_num, by rw [Hid, Nat.add_sub_cancel]; exact hno.out.symm, own2.out, BW.out⟩
                    case measure => simp [intOf]; omega
                  · have hp1 : 0 < np := by omega
                    have hp2 : (0 : Int) < (np : Int) := by omega
                    have hyes : Hid (rowsTo L a = R ++ [rowC L a]) := by rw [Hid, RS.out, hha.out, if_pos (by simp; omega)]
                    have hb8 : w8.heap.size ≤ wr.heap.size := BW.out.size
                    clear RS hha own
                    obtain ⟨rc, hrc⟩ : ∃ rc, rc = rowC L a := ⟨_, rfl⟩
                    rw [← hrc] at hyes KR
                    clear hrc
                    go_upto_region 11 with (first
                      | (refine wpList_load_row rfl 109 _ (by rfl) g10 (by rfl) _ _ _ _ KR.out underRR rfl infoRR ?_)
                      | (refine wpList_lit1 rrSl (encR_len rc) (by omega) (by rfl) ?_)
                      | (at_builtin; refine wpList_push rrSl own2.out (encR rc) (encR_len rc) (encR_one rc) hb8 (by omega) (by unfold maxLen; omega) (by rfl) (by rfl) (by rfl) ?_; intro v9 w9 own9 bel9))
                    have own9 : Hid (w9.ownsRow w8.heap.size 109 9 v9 (R ++ [rc]).length ((R ++ [rc]).flatMap encR)) := by rw [Hid, List.length_append, List.flatMap_append]; simpa using own9
                    have B9 := Lib.hid (BW.out.trans bel9)
                    clear bel9 KR own2 BW BK
                    go_wp2_with fail
                    go_roundw
                    case rel => exact ⟨a + 1, R ++ [rc], by omega, by omega, by go_num, by rw [Hid, Nat.add_sub_cancel]; exact hyes.out.symm, own9.out, B9.out⟩
                    case measure => simp [intOf]; omega
        · have hlk : ¬ (a : Int) ≤ 64 := by omega
          obtain rfl : a = 65 := by omega
          have hfin : Hid (R = rowsC L) := by rw [Hid, hR.out]; exact rowsTo_all hau.out
          rw [hfin.out, hL.out] at own
          have BF := Lib.hid (B8.out.trans (B.out.mono B8.out.size))
          have OF := Lib.hid (own_mono' own.out B8.out.size)
          go_wp2_with fail
          go_ret
          exact ⟨_, rfl, OF.out, BF.out⟩
end Go.Proofs.YtdafiipedlglpaaGreatDoor
