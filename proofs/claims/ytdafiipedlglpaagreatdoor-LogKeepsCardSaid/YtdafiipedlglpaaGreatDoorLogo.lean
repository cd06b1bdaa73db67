/- A crash leaves the first patches, with all that were sure: walked. -/
import Derived.Test.YtdafiipedlglpaaGreatDoorLogn
namespace Go.Proofs.YtdafiipedlglpaaGreatDoor
open Go.RowKit

section
variable {P : Program} {ops : Array Oper} {rest : List Oper} {a : Act} {w : World} {Q : Exit → Act → World → Prop} {d : Option Tmp} {ty t e : TypeId} {pos : String} {after : Array Edge} {gd : Option (Nat × Bool)} {x : Operand}
theorem wpList_slG30 {lo hi mx : Option Operand} (hw : Region.wanted ⟨d, .slice t x lo hi mx, ty, pos, after, gd⟩ (yielded ops a.tmps) = true) {xv v : Value} {lv hv mv : Option Value} (hx : a.eval x = xv) (hl : lo.map a.eval = lv) (hh : hi.map a.eval = hv) (hm : mx.map a.eval = mv) (hr : (Instr.sliceAt t xv lv hv mv).run P w = .ok v w)
    (h : wpList P ops Q rest (a.put d v) w) : wpList P ops Q (⟨d, .slice t x lo hi mx, ty, pos, after, gd⟩ :: rest) a w :=
  wpList_wanted hw fun _ hK => by
    unfold Oper.wp execOp
    simp only [hx, hl, hh, hm, Sem.run_bind, hr, Result.andThen_ok, Sem.run_pure]
    exact hK _ _ h
/-- a guarded literal of one struct -/
theorem wpList_lit1G {size bytes : Nat} (T : SlT P t e size bytes) (hw : Region.wanted ⟨d, .buildSlice t 1 #[(0, x)], ty, pos, after, gd⟩ (yielded ops a.tmps) = true) {cs : List Value} (hl : cs.length = size) (hs : size ≤ 16777216) (hx : a.eval x = .agg cs.toArray)
    (h : wpList P ops Q rest (a.put d (.slice (some ⟨w.heap.size, 0, none⟩) 1 1)) (w.alloc (.cells cs.toArray e))) : wpList P ops Q (⟨d, .buildSlice t 1 #[(0, x)], ty, pos, after, gd⟩ :: rest) a w := by
  obtain ⟨i, z, hi, hz, hsz, hby, hzs⟩ := T.hi
  have hpos := T.pos
  refine wpList_wanted hw fun K hK => ?_
  refine wp_buildSlice t e 1 #[(0, x)] rfl cs.toArray i z T.ht hi hz (by rw [hsz]; omega) (by rw [hsz]; omega) ?_ (hK _ _ h)
  rw [hsz]
  have := fill_vals hpos [cs] (by simpa using hl) ((Array.range (1 * size)).map (z.cells[· % z.cells.size]!)) (by simp)
  simpa [hx] using this
end
theorem i64_of {z : Int} (h : (Lit.int .i64 z).wf = true) : -9223372036854775808 ≤ z ∧ z ≤ 9223372036854775807 := i64_30 h
theorem PatsAt.top30 {w : World} {A : Option Addr} {n c k : Nat} {l : List PatV} (h : PatsAt w A n l) (hk : k ≤ n) : PatsAt w (cutAddr A c 0 4) k (l.take k) := by
  obtain ⟨rows, hr, hs⟩ := h.ex
  have hl := h.len
  have h4 : ∀ r ∈ rows, r.length = 4 := fun r hx => by
    obtain ⟨i, hi, rfl⟩ := List.getElem_of_mem hx
    exact (hr.2 i _ _ (List.getElem?_eq_getElem hi) (List.getElem?_eq_getElem (by rw [← hr.1]; exact hi))).len4
  have hrn : rows.length = n := hr.1.trans hl
  have ht : ∀ r ∈ rows.take k, r.length = 4 := fun r h => h4 r (List.mem_of_mem_take h)
  have hf : ((rows.take k).flatten).length = k * 4 := by rw [flatten_len _ ht, List.length_take, Nat.min_eq_left (by omega)]
  refine ⟨by rw [List.length_take, hl]; omega, rows.take k, ⟨by rw [List.length_take, List.length_take, hr.1], fun j r p h1 h2 => ?_⟩, hf, fun hp => ?_⟩
  · rw [List.getElem?_take] at h1 h2
    split at h1
    · rename_i hlt
      rw [if_pos hlt] at h2
      exact hr.2 j r p h1 h2
    · cases h1
  · obtain ⟨b, o, rfl, hb, hcell⟩ := hs.2 (by omega)
    refine ⟨b, o, ?_, hb, fun j hj => ?_⟩
    · unfold cutAddr
      split
      · rfl
      · simp [Addr.add_mid]
    · have hkn : k * 4 ≤ n * 4 := Nat.mul_le_mul_right _ hk
      have e0 : rows.flatten = (rows.take k).flatten ++ (rows.drop k).flatten := by rw [← List.flatten_append, List.take_append_drop]
      rw [hcell _ (by omega), e0, List.getElem?_append_left (by omega)]
theorem pats_own30 {w : World} {base n : Nat} {A : Option Addr} {c : Nat} {rows : List (List Value)} {l : List PatV} (h : w.ownsRow base 64 4 (.slice A n c) n rows.flatten) (hr : RowsP w rows l) (hn : l.length = n) : PatsAt w A n l := by
  obtain ⟨A', c', e, _, hs⟩ := Sl.of_own h
  injection e with e1 _ _
  subst e1
  exact ⟨hn, rows, hr, hs⟩
set_option maxRecDepth 100000 in
set_option maxHeartbeats 8000000 in
theorem logKeeps_walk (w : World) (l : List Act30) (A : Option Addr) (n c : Nat) (hm : n ≤ maxLen) (h : Acts30At w A n l) (x : Int) (hx0 : -9223372036854775808 ≤ x) (hx1 : x ≤ 9223372036854775807) (p : PatV) (cs : List Value) (hp : PatAt w cs p) (hFo : FourOk w) :
    Calls Tryz.prog 9 #[.slice A n c, .int .i64 x, .agg cs.toArray] w (RetB w (.bool true)) := by
  have hl4 := Lib.hid hp.len4
  have hone := Lib.hid hp.one
  have hi4 : (Tryz.prog.info? 64).map (·.size) = some cs.length := by rw [hl4.out]; exact infoPat
  have K0 : Hid (Blk (w.alloc (.cells cs.toArray 64)) w.heap.size 64 cs.toArray) := Blk.new _ _ _
  have B0 : Hid (Below w.heap.size w (w.alloc (.cells cs.toArray 64))) := below_new _ _
  have P0 := Lib.hid (hp.ext B0.out)
  have H := Lib.hid (h.ext B0.out)
  have F0 := Lib.hid (four_ext hFo B0.out)
  have hln := Lib.hid h.len
  clear hp h hFo
  go_enter Tryz.func9, Tryz.ntmps9
  go_upto_region 1 with fail
  generalize (w.alloc (.cells cs.toArray 64)) = w2 at *
  obtain ⟨g1, hg1⟩ : ∃ g, g = w.heap.size := ⟨_, rfl⟩
  rw [← hg1] at K0 ⊢
  clear hg1
  have HF := Lib.hid (few30_any l w2 A n c H.out hm)
  obtain ⟨fw, hfw⟩ : ∃ b, b = fewA30 l := ⟨_, rfl⟩
  rw [← hfw] at HF
  cases fw
  · clear hfw
    go_wp2_with fail
    refine HF.out.mono ?_
    rintro e w3 ⟨rfl, b3⟩
    have B3 := Lib.hid b3
    clear b3 HF
    have FW := Lib.hid (four_ext F0.out B3.out)
    go_wp2_with fail
    refine (works30 _ FW.out).mono ?_
    rintro e wz ⟨rfl, bz⟩
    have BZ := Lib.hid (B0.out.trans ((B3.out.trans (bz.mono B3.out.size)).mono B0.out.size))
    clear bz FW B3
    go_wp2
    go_ret
    exact ⟨rfl, BZ.out⟩
  · have hn30 : n ≤ 30 := by rw [← hln.out]; exact fewA30_len hfw.symm
    clear hfw
    go_wp2_with fail
    refine HF.out.mono ?_
    rintro e w3 ⟨rfl, b3⟩
    have B3 := Lib.hid b3
    have RP3 := Lib.hid (blk_rngL (K0.out.ext B3.out))
    have PS := Lib.hid (pats_one30 (P0.out.ext B3.out))
    have M : Hid (Below w3.heap.size w3 (w3.alloc (.cells cs.toArray 64))) := below_new _ _
    have HN := Lib.hid (few20_any [p] (w3.alloc (.cells cs.toArray 64)) _ 1 1 1 PS.out (by decide))
    clear b3 HF PS
    cases hf : fewsB [p] 1
    · rw [fewsN_false hf] at HN
      clear hf
      go_wp2_with (first
        | (refine wpList_load_midG (by kernel_rfl) 64 _ (by rfl) g1 0 (by rfl) _ _ RP3.out underPat rfl hi4 ?_)
        | (refine wpList_lit1G patSl (by kernel_rfl) (cs := cs) hl4.out (by omega) (by rfl) ?_))
      refine HN.out.mono ?_
      rintro e w4 ⟨rfl, b4⟩
      have B4 := Lib.hid (B3.out.trans ((M.out.trans (b4.mono M.out.size)).mono B3.out.size))
      clear b4 HN M RP3 B3
      have FW := Lib.hid (four_ext F0.out B4.out)
      go_wp2_with fail
      refine (works30 _ FW.out).mono ?_
      rintro e wz ⟨rfl, bz⟩
      have BZ := Lib.hid (B0.out.trans ((B4.out.trans (bz.mono B4.out.size)).mono B0.out.size))
      clear bz FW B4
      go_wp2
      go_ret
      exact ⟨rfl, BZ.out⟩
    · rw [fewsN_true hf] at HN
      clear hf
      go_wp2_with (first
        | (refine wpList_load_midG (by kernel_rfl) 64 _ (by rfl) g1 0 (by rfl) _ _ RP3.out underPat rfl hi4 ?_)
        | (refine wpList_lit1G patSl (by kernel_rfl) (cs := cs) hl4.out (by omega) (by rfl) ?_))
      refine HN.out.mono ?_
      rintro e w4 ⟨rfl, b4⟩
      have B4 := Lib.hid (B3.out.trans ((M.out.trans (b4.mono M.out.size)).mono B3.out.size))
      clear b4 HN M RP3 B3
      go_wp2_with fail
      refine (diskNew_any _).mono ?_
      rintro e w5 ⟨rfl, b5, D5⟩
      obtain ⟨d, hd⟩ : ∃ d, d = w4.heap.size := ⟨_, rfl⟩
      rw [← hd] at D5 ⊢
      have hdw : Hid (w2.heap.size ≤ d) := by rw [Hid, hd]; exact B4.out.size
      clear hd
      have B5 := Lib.hid (B4.out.trans (b5.mono B4.out.size))
      have HO := Lib.hid (logOpenP (qs := []) rfl D5 (by show 0 ≤ 900000; omega) (four_ext F0.out B5.out) ⟨readL_nil, rfl⟩)
      clear b5 D5 B4
      go_wp2_with fail
      refine HO.out.mono ?_
      rintro e w6 ⟨lb, A0, c0, E6, G6, rfl, kp, L6, -, -, hE, -⟩
      have B6 : Hid (Below w2.heap.size w2 w6) := B5.out.trans (kp.below (fun k e => by have e : k = d := e; rw [e]; exact hdw.out) B5.out.size)
      have hE6 : Hid (∀ k, E6 k → w2.heap.size ≤ k) := fun k e => (hE k e).elim (fun e => by have e : k = d := e; rw [e]; exact hdw.out) (fun h => Nat.le_trans B5.out.size h)
      have L6 := Lib.hid L6
      clear kp hE B5 HO hdw
      go_wp2_with fail
      go_loopw [10, 11] (fun av iv wr => ∃ (k : Nat) (ps : List PatV) (rows : List (List Value)) (s : Nat) (E : Nat → Prop), k ≤ n ∧ iv = .int .i64 k ∧ Hid (∀ q ∈ ps, patB q = true) ∧ ps.length ≤ k ∧ Hid (wr.ownsRow w2.heap.size 64 4 av ps.length rows.flatten) ∧ Hid (RowsP w2 rows ps) ∧ Hid (LogAt wr E lb d (framesB ps) (endsL (withLen ps)) s) ∧ Hid (∀ q, E q → w2.heap.size ≤ q ∧ av.ownBlock ≠ some q) ∧ Hid (Below w2.heap.size w2 wr)) (fun _ iv _ => n - (intOf iv).toNat)
      case atStart => exact ⟨0, [], [], 0, E6, Nat.zero_le _, rfl, fun q h => absurd h (by simp), Nat.le_refl 0, World.ownsRow_nil _ _ _ _, RowsP.nil _, L6.out, fun q e => ⟨hE6.out q e, by simp [Value.ownBlock]⟩, B6.out⟩
      case round =>
        clear L6 B6 hE6
        obtain ⟨k, ps, rows, s, E, hk, rfl, hg, hps, own, hrs, L, hE, B⟩ := hrel
        obtain ⟨Aa, ca, rfl, hca, -⟩ := Sl.of_own own.out
        have hca := Lib.hid hca
        have hk0 : (0 : Int) ≤ (k : Int) := by omega
        by_cases hlt : k < n
        · have hlk : (k : Int) < (n : Int) := by omega
          obtain ⟨b, o, a, r, rfl, hb0, ha, pa, R⟩ := H.out.at_ hlt
          obtain ⟨rp, rfl, hq⟩ := pa.ex
          have R0 := Lib.hid R
          have R := Lib.hid (rangeAt_below R B.out hb0)
          have RP := Lib.hid (act30_pat R.out)
          have hiR : (Tryz.prog.info? 64).map (·.size) = some rp.length := by rw [hq.len4]; exact infoPat
          have hr4 := Lib.hid hq.len4
          have HQ := Lib.hid hq
          have y0 : wr.cell? ⟨b, o + k * 6, none⟩ = some (.int .u8 a.1) := by simpa using R.out 0 _ rfl
          clear pa hq R ha
          obtain ⟨z, nz, q⟩ := a
          dsimp only at y0 HQ
          by_cases h0 : z = 0
          · subst h0
            have HA := Lib.hid (logAppendP L.out hg.out (by omega) q rp (HQ.out.ext B.out) (four_ext F0.out B.out))
            go_wp2_with (refine wpList_load_mid rfl 64 _ (by rfl) b (o + k * 6 + 2) (by rfl) _ _ RP.out underPat rfl hiR ?_)
            refine HA.out.mono ?_
            rintro e w7 ⟨h1, h2⟩
            obtain ⟨gd, hgd⟩ : ∃ g, g = patB q := ⟨_, rfl⟩
            rw [← hgd] at h1 h2
            replace hgd := Lib.hid hgd
            cases gd
            · obtain ⟨rfl, b7⟩ := h2 rfl
              have L7 := Lib.hid (L.out.ext b7)
              have own7 := Lib.hid (own_ext own.out b7)
              have B7 := Lib.hid (B.out.trans (b7.mono B.out.size))
              clear h1 h2 hgd b7 HA RP y0 L own B
              go_wp2_with fail
              go_roundw
              case rel => exact ⟨k + 1, ps, rows, s, E, by omega, by go_num, hg.out, by omega, own7.out, hrs.out, L7.out, hE.out, B7.out⟩
              case measure => simp [intOf]; omega
            · obtain ⟨rfl, kp, E7, L7, hE7⟩ := h1 rfl
              have own7 := Lib.hid (own_keepF own.out fun g e => kp.block g (own.out.lt g e).2 fun e2 => (hE.out g e2).2 e)
              have B7 := Lib.hid (B.out.trans (kp.below (fun k e => (hE.out k e).1) B.out.size))
              have hF7 : Hid (∀ q, E7 q → w2.heap.size ≤ q ∧ (Value.slice Aa ps.length ca).ownBlock ≠ some q) := fun q e => (hE7 q e).elim (fun e => hE.out q e) fun e => ⟨Nat.le_trans B.out.size e, fun e2 => by have := (own.out.lt q e2).2; omega⟩
              have L7 := Lib.hid L7
              replace hgd := Lib.hid hgd.out.symm
              have RP7 := Lib.hid (act30_pat (rangeAt_below R0.out B7.out hb0))
              clear h1 h2 HA RP y0 L own B kp hE hE7
              go_upto_region 8 with (first
                | (refine wpList_load_mid rfl 64 _ (by rfl) b (o + k * 6 + 2) (by rfl) _ _ RP7.out underPat rfl hiR ?_)
                | (refine wpList_lit1 patSl hr4.out (by omega) (by rfl) ?_)
                | (at_builtin; refine wpList_pushF patSl own7.out rp hr4.out HQ.out.one B7.out.size (by omega) (by unfold maxLen; omega) (by rfl) (by rfl) (by rfl) ?_; intro v8 w8 own8 kp8 new8; obtain ⟨A8, c8, rfl, -, -⟩ := Sl.of_own own8))
              have own8 := Lib.hid own8
              have B8 := Lib.hid (B7.out.trans (kp8.below (fun k e => (own7.out.lt k e).1) B7.out.size))
              have L8 := Lib.hid (L7.out.stay (kp8.stay fun q _ e1 e2 => (hF7.out q e1).2 e2))
              have hE8 : Hid (∀ q, E7 q → w2.heap.size ≤ q ∧ (Value.slice A8 (ps.length + 1) c8).ownBlock ≠ some q) := fun q e => ⟨(hF7.out q e).1, fun e2 => (new8 q e2).elim (fun e3 => (hF7.out q e).2 e3) fun e3 => by have := L7.out.lt q e; omega⟩
              clear kp8 new8 own7 B7 L7 hF7 RP7
              go_wp2_with fail
              go_roundw
              case rel => exact ⟨k + 1, ps ++ [q], rows ++ [rp], s, E7, by omega, by go_num, good_snoc hg.out hgd.out, by rw [List.length_append]; simp; omega, by rw [Hid, List.length_append, List.flatten_append]; simpa using own8.out, hrs.out.snoc HQ.out, L8.out, hE8.out, B8.out⟩
              case measure => simp [intOf]; omega
          · have d0 : (z == 0) = false := beq_eq_false_iff_ne.2 h0
            by_cases h1 : z = 1
            · subst h1
              have HY := Lib.hid (logSync_any L.out)
              go_wp2_with fail
              refine HY.out.mono ?_
              rintro e w7 ⟨rfl, kp, E7, L7, hE7⟩
              have own7 := Lib.hid (own_keepF own.out fun g e => kp.block g (own.out.lt g e).2 fun e2 => (hE.out g e2).2 e)
              have B7 := Lib.hid (B.out.trans (kp.below (fun k e => (hE.out k e).1) B.out.size))
              have hF7 : Hid (∀ q, E7 q → w2.heap.size ≤ q ∧ (Value.slice Aa ps.length ca).ownBlock ≠ some q) := fun q e => (hE7 q e).elim (fun e => hE.out q e) fun e => ⟨Nat.le_trans B.out.size e, fun e2 => by have := (own.out.lt q e2).2; omega⟩
              have L7 := Lib.hid L7
              clear HY RP y0 L own B kp hE hE7
              go_wp2_with fail
              go_roundw
              case rel => exact ⟨k + 1, ps, rows, _, E7, by omega, by go_num, hg.out, by omega, own7.out, hrs.out, L7.out, hF7.out, B7.out⟩
              case measure => simp [intOf]; omega
            · have d1 : (z == 1) = false := beq_eq_false_iff_ne.2 h1
              go_wp2_with fail
              go_roundw
              case rel => exact ⟨k + 1, ps, rows, s, E, by omega, by go_num, hg.out, by omega, own.out, hrs.out, L.out, hE.out, B.out⟩
              case measure => simp [intOf]; omega
        · have hlk : ¬ (k : Int) < (n : Int) := by omega
          have hs0 : s ≤ (framesB ps).length := by
            obtain ⟨D0, hD0, -⟩ := L.out.disk
            exact hD0.le
          have HS := Lib.hid (logSureP L.out hg.out (by omega))
          obtain ⟨np, hnp⟩ : ∃ m, m = ps.length := ⟨_, rfl⟩
          rw [← hnp] at own hE hps hca ⊢
          replace hnp := Lib.hid hnp
          obtain ⟨sn, hsn⟩ : ∃ m, m = sureN (withLen ps) s := ⟨_, rfl⟩
          rw [← hsn] at HS
          replace hsn := Lib.hid hsn
          go_wp2_with fail
          refine HS.out.mono ?_
          rintro e w7 ⟨rfl, b7⟩
          have own7 := Lib.hid (own_ext own.out b7)
          have B7 := Lib.hid (B.out.trans (b7.mono B.out.size))
          obtain ⟨D7, hD7, hDE7⟩ := (L.out.ext b7).disk
          have HC := Lib.hid (diskCrash_any hD7 x hx0 hx1 (by have := len_goods hg.out (by rw [← hnp.out]; omega); omega))
          have hD7w : Hid (∀ q, D7 q → w2.heap.size ≤ q ∧ (Value.slice Aa np ca).ownBlock ≠ some q) := fun q e => hE.out q (hDE7 q e)
          clear b7 HS L own B hD7 hDE7 hE
          go_wp2_with fail
          refine HC.out.mono ?_
          rintro e w8 ⟨rfl, kp, D8, hD8, hDD⟩
          obtain ⟨m, hme⟩ : ∃ m, m = keepN (framesB ps).length s x := ⟨_, rfl⟩
          have hm2 := keepN_le hs0 x
          rw [← hme] at hD8 hm2
          obtain ⟨qs, q1, q2, q3, j, j1, j2, j3⟩ := crash30 hg.out m
          have hsure : sn ≤ qs.length := by
            have h1 := sure_le hm2.1 j3
            rw [hsn.out, j2, List.length_take]; omega
          have hqs : ps.take qs.length = qs := by rw [j2, List.length_take, Nat.min_eq_left j1]
          have hpl : (framesB ps).length ≤ 900000 := len_goods hg.out (by rw [← hnp.out]; omega)
          obtain ⟨nq, hnq⟩ : ∃ m, m = qs.length := ⟨_, rfl⟩
          rw [← hnq] at hsure hqs q2
          replace hnq := Lib.hid hnq
          rw [← hnp.out] at q2
          have own8 := Lib.hid (own_keepF own7.out fun g e => kp.block g (own7.out.lt g e).2 fun e2 => (hD7w.out g e2).2 e)
          have B8 := Lib.hid (B7.out.trans (kp.below (fun k e => (hD7w.out k e).1) B7.out.size))
          have hD8w : Hid (∀ q, D8 q → w2.heap.size ≤ q ∧ (Value.slice Aa np ca).ownBlock ≠ some q) := fun q e => (hDD q e).elim (fun e => hD7w.out q e) fun e => ⟨Nat.le_trans B7.out.size e, fun e2 => by have := (own7.out.lt q e2).2; omega⟩
          have HO := Lib.hid (logOpenP hnq.out.symm hD8 (by rw [List.length_take]; omega) (four_ext F0.out B8.out) q3)
          have hq1 := Lib.hid q1
          clear HC hg hD7w kp hD8 hDD own7 B7 hm2 j1 j2 j3 q3 hsn hme q1 hpl
          go_wp2_with fail
          refine HO.out.mono ?_
          rintro e w9 ⟨lm, A9, c9, E9, G9, rfl, kp, L9, OG, PG, hE9, hG9⟩
          have B9 := Lib.hid (B8.out.trans (kp.below (fun k e => (hD8w.out k e).1) B8.out.size))
          have own9 := Lib.hid (own_keepF own8.out fun g e => kp.block g (own8.out.lt g e).2 fun e2 => (hD8w.out g e2).2 e)
          have hEw : Hid (∀ q, E9 q → w2.heap.size ≤ q) := fun q e => (hE9 q e).elim (fun e => (hD8w.out q e).1) (fun e => Nat.le_trans B8.out.size e)
          have PAll := Lib.hid (pats_own30 own9.out (hrs.out.ext B9.out) hnp.out.symm)
          have PTop : Hid (PatsAt w9 (cutAddr Aa ca 0 4) nq qs) := by
            have h1 := PAll.out.top30 (c := ca) q2
            rw [hqs] at h1
            exact h1
          have PGot := Lib.hid PG
          have HGE : Hid (∀ k, G9 k → ¬ E9 k ∧ w2.heap.size ≤ k) := fun k e => ⟨(hG9 k e).2.2, Nat.le_trans B8.out.size (hG9 k e).1⟩
          have OG := Lib.hid OG
          have L9 := Lib.hid L9
          have CH := Lib.hid (fun u => run_slice_high (P := Tryz.prog) patSl (A := Aa) (n := np) (c := ca) (k := nq) (by have := hca.out; omega) u)
          have HPS := Lib.hid (fun u (hu : Below w9.heap.size w9 u) => patches30_same qs u A9 (cutAddr Aa ca 0 4) nq c9 ca (PGot.out.ext hu) (PTop.out.ext hu) (by unfold maxLen; omega))
          have HSU : Hid (∀ u, Below w9.heap.size w9 u → Calls Tryz.prog 41 #[.pointer (some ⟨lm, 0, none⟩)] u (RetB u (.int .i64 ((nq : Nat) : Int)))) := fun u hu => by
            have h1 := logSureP (L9.out.ext hu) hq1.out (by rw [← hnq.out]; omega)
            rw [sureN_len (Nat.le_refl _), ← hnq.out] at h1
            exact h1
          have t1 : decide (nq < sn) = false := decide_eq_false (by omega)
          have t2 : decide (np < nq) = false := decide_eq_false (by omega)
          clear HO own8 B8 kp hD8w hE9 hG9 own9 PAll PG hrs hqs
          generalize cutAddr Aa ca 0 4 = AT at *
          go_wp2_with ((with_reducible refine wpList_slG30 ?_ ?_ ?_ ?_ ?_ (CH.out _) ?_); kernel_rfl; rfl; rfl; rfl; rfl)
          refine (HPS.out _ (Below.refl _ _)).mono ?_
          rintro e wa ⟨rfl, ba⟩
          have Ba := Lib.hid ba
          clear ba HPS CH
          go_wp2_with fail
          refine (HSU.out _ Ba.out).mono ?_
          rintro e wb ⟨rfl, bb⟩
          have Bb := Lib.hid (Ba.out.trans (bb.mono Ba.out.size))
          clear bb HSU Ba PTop
          have BB := Lib.hid (B9.out.trans (Bb.out.mono B9.out.size))
          have LB := Lib.hid (L9.out.ext Bb.out)
          have OB := Lib.hid (OG.out.ext Bb.out)
          have PB0 := Lib.hid (PGot.out.ext Bb.out)
          have RPB := Lib.hid (blk_rngL (K0.out.ext BB.out))
          have HA := Lib.hid (logAppendP LB.out hq1.out (by rw [← hnq.out]; omega) p cs (P0.out.ext BB.out) (four_ext F0.out BB.out))
          clear Bb B9 L9 OG PGot
          go_wp2_with (refine wpList_load_mid rfl 64 _ (by rfl) g1 0 (by rfl) _ _ RPB.out underPat rfl hi4 ?_)
          refine HA.out.mono ?_
          rintro e wc ⟨h1, h2⟩
          obtain ⟨gd, hgd⟩ : ∃ g, g = patB p := ⟨_, rfl⟩
          rw [← hgd] at h1 h2
          replace hgd := Lib.hid hgd
          cases gd
          · obtain ⟨rfl, bc⟩ := h2 rfl
            have BC := Lib.hid (BB.out.trans (bc.mono BB.out.size))
            have LC := Lib.hid (LB.out.ext bc)
            have OC := Lib.hid (OB.out.ext bc)
            have GS : Hid (∀ u, Kept E9 wc u → PatsAt u A9 nq qs) := fun u hu => by
              have h := OC.out.stay (hu.stay fun k _ e1 e2 => (HGE.out k e1).1 e2)
              rw [hnq.out] at h ⊢
              exact h.pats
            have hnr := Lib.hid hnq.out.symm
            clear h1 h2 hgd bc HA RPB BB LB OB PB0
            obtain ⟨DL, hDL, hDE⟩ := LC.out.disk
            have hnr40 : nq ≤ 40 := by omega
            have HO := Lib.hid (logOpenP hnr.out hDL (len_goods hq1.out (by rw [hnr.out]; omega)) (four_ext F0.out BC.out) (whole30 hq1.out))
            go_wp2_with fail
            refine HO.out.mono ?_
            rintro e wx ⟨lx, AX, cx, EX, GX, rfl, kx, -, -, PX, -, -⟩
            have PA := Lib.hid PX
            have PB := Lib.hid (GS.out wx (kx.mono hDE))
            have BX : Hid (Below w2.heap.size w2 wx) := BC.out.trans (kx.below (fun k e => hEw.out k (hDE k e)) BC.out.size)
            clear kx PX hDL hDE HO GS LC BC
            go_wp2_with fail
            refine (patches30_same qs wx AX A9 _ cx c9 PA.out PB.out (by unfold maxLen; omega)).mono ?_
            rintro e wy ⟨rfl, by_⟩
            have BY := Lib.hid (BX.out.trans (by_.mono BX.out.size))
            clear by_ BX PA PB
            have FW := Lib.hid (four_ext F0.out BY.out)
            go_wp2_with fail
            refine (works30 _ FW.out).mono ?_
            rintro e wz ⟨rfl, bz⟩
            have BZ := Lib.hid (B0.out.trans ((BY.out.trans (bz.mono BY.out.size)).mono B0.out.size))
            clear bz FW BY
            go_wp2
            go_ret
            exact ⟨rfl, BZ.out⟩
          · obtain ⟨rfl, kp, Ec, LC, hEc⟩ := h1 rfl
            obtain ⟨rows9, DR, o1, o2, o3, o4⟩ := OB.out
            have LC := Lib.hid LC
            have BC := Lib.hid (BB.out.trans (kp.below (fun k e => hEw.out k e) BB.out.size))
            have hEcw : Hid (∀ q, Ec q → w2.heap.size ≤ q) := fun q e => (hEc q e).elim (fun e => hEw.out q e) (fun e => Nat.le_trans BB.out.size e)
            have hdE : Hid (∀ k, (Value.slice A9 nq c9).ownBlock = some k → ¬ Ec k ∧ w2.heap.size ≤ k) := fun k e => ⟨fun e2 => (hEc k e2).elim (fun e3 => (HGE.out k (o4 k e)).1 e3) (fun e3 => by have := (o1.lt k e).2; omega), (HGE.out k (o4 k e)).2⟩
            have hdR : Hid (∀ k, DR k → ¬ Ec k ∧ (Value.slice A9 nq c9).ownBlock ≠ some k) := fun k e => ⟨fun e2 => (hEc k e2).elim (fun e3 => (HGE.out k (o3 k e).1).1 e3) (fun e3 => by have := (o3 k e).2.1; omega), (o3 k e).2.2⟩
            have ownC := Lib.hid (own_keepF o1 fun g e => kp.block g (o1.lt g e).2 fun e2 => (HGE.out g (o4 g e)).1 e2)
            have RIC := Lib.hid (o2.stay (kp.stay fun k _ e1 e2 => (HGE.out k (o3 k e1).1).1 e2))
            rw [← hnq.out] at ownC
            replace hgd := Lib.hid hgd.out.symm
            have RPC := Lib.hid (blk_rngL (K0.out.ext BC.out))
            clear h1 h2 HA RPB LB OB PB0 kp hEc o1 o2 o3 o4 hEw HGE BB
            go_wp2_with (first
              | (refine wpList_load_mid rfl 64 _ (by rfl) g1 0 (by rfl) _ _ RPC.out underPat rfl hi4 ?_)
              | (refine wpList_lit1 patSl hl4.out (by omega) (by rfl) ?_)
              | (at_builtin; refine wpList_pushF patSl ownC.out cs hl4.out hone.out (Nat.zero_le _) (by omega) (by unfold maxLen; omega) (by rfl) (by rfl) (by rfl) ?_; intro v2 wd own2 kp2 new2; obtain ⟨Ag, cg, rfl, -, -⟩ := Sl.of_own own2))
            obtain ⟨rs, hrs⟩ : ∃ rs, rs = qs ++ [p] := ⟨_, rfl⟩
            have hnr : Hid (rs.length = nq + 1) := by rw [Hid, hrs, List.length_append, ← hnq.out]; rfl
            have hgr : Hid (∀ q ∈ rs, patB q = true) := by rw [hrs]; exact good_snoc hq1.out hgd.out
            have LD := Lib.hid (LC.out.stay (kp2.stay fun q _ e1 e2 => (hdE.out q e2).1 e1))
            have BD := Lib.hid (BC.out.trans (kp2.below (fun k e => (hdE.out k e).2) BC.out.size))
            have GS : Hid (∀ u, Kept Ec wd u → PatsAt u Ag (nq + 1) rs) := fun u hu => by
              have e1 := own_keepF own2 fun g e => hu.block g (own2.lt g e).2 fun e2 => (new2 g e).elim (fun e3 => (hdE.out g e3).1 e2) fun e3 => by have := LC.out.lt g e2; omega
              have e2 := (RIC.out.stay (kp2.stay fun k _ e1 e2 => (hdR.out k e1).2 e2)).stay (hu.stay fun k _ e1 e2 => (hdR.out k e1).1 e2)
              have e3 := BD.out.trans (hu.below (fun k e => hEcw.out k e) BD.out.size)
              refine pats_own30 (base := 0) (c := cg) (rows := rows9 ++ [cs]) ?_ ?_ hnr.out
              · simpa using e1
              · rw [hrs]
                exact e2.rowsP.snoc (P0.out.ext e3)
            rw [← hrs] at LD
            clear hrs own2 kp2 new2 LC BC hdE hdR RIC ownC RPC hgd
            obtain ⟨DL, hDL, hDE⟩ := LD.out.disk
            have hnr40 : (nq + 1) ≤ 40 := by omega
            have HO := Lib.hid (logOpenP hnr.out hDL (len_goods hgr.out (by rw [hnr.out]; omega)) (four_ext F0.out BD.out) (whole30 hgr.out))
            go_wp2_with fail
            refine HO.out.mono ?_
            rintro e wx ⟨lx, AX, cx, EX, GX, rfl, kx, -, -, PX, -, -⟩
            have PA := Lib.hid PX
            have PB := Lib.hid (GS.out wx (kx.mono hDE))
            have BX : Hid (Below w2.heap.size w2 wx) := BD.out.trans (kx.below (fun k e => hEcw.out k (hDE k e)) BD.out.size)
            clear kx PX hDL hDE HO GS LD BD
            go_wp2_with fail
            refine (patches30_same rs wx AX Ag _ cx cg PA.out PB.out (by unfold maxLen; omega)).mono ?_
            rintro e wy ⟨rfl, by_⟩
            have BY := Lib.hid (BX.out.trans (by_.mono BX.out.size))
            clear by_ BX PA PB
            have FW := Lib.hid (four_ext F0.out BY.out)
            go_wp2_with fail
            refine (works30 _ FW.out).mono ?_
            rintro e wz ⟨rfl, bz⟩
            have BZ := Lib.hid (B0.out.trans ((BY.out.trans (bz.mono BY.out.size)).mono B0.out.size))
            clear bz FW BY
            go_wp2
            go_ret
            exact ⟨rfl, BZ.out⟩
end Go.Proofs.YtdafiipedlglpaaGreatDoor
