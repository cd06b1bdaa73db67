/- Whatever waits, is taken out, and asked for, each answer, and all that waits, is as the document says: walked. -/
import Derived.Deep.CutBlock
import Derived.Test.YtnhbbggpgieipaaGreatPlrs
import Derived.Test.YtnhbbggpgieipaaGreatPoolm
import Derived.Test.YtnhbbggpgieipaaGreatPoolw
namespace Go.Proofs.YtnhbbggpgieipaaGreat
open Go.RowKit

/-- the pool, and the document's, as they lie apart from one another; what came in is the document's too -/
def DuoAt (w wr : World) (g gx : Nat) (room : Int) (L : List PatV) (A : Option Addr) (c : Nat) (F G : Nat → Prop) : Prop :=
  PoolAt wr F g room L ∧ Blk wr gx 29 (rpV room A L.length c) ∧ PatsIn wr G A L.length L ∧ (∀ k, k < w.heap.size → G k) ∧ (∀ k, G k → k < wr.heap.size) ∧ (∀ k, G k → ¬ F k) ∧ ¬ F gx ∧ ¬ G gx ∧ (∀ k, F k → w.heap.size ≤ k) ∧ w.heap.size ≤ gx
def Duo (w wr : World) (g gx : Nat) (room : Int) (L : List PatV) : Prop := ∃ A c F G, DuoAt w wr g gx room L A c F G
/-- what lies somewhere lies there among the blocks that there are -/
theorem PatIn.both {w : World} {G : Nat → Prop} {r : List Value} {p : PatV} (h : PatIn w G r p) : PatIn w (fun q => G q ∧ q < w.heap.size) r p := by
  obtain ⟨⟨A, c, A', c', e, h1, h2, i1, i2⟩, h3, h4⟩ := h
  refine ⟨⟨A, c, A', c', e, h1, h2, fun hn b o ea => ⟨i1 hn b o ea, ?_⟩, fun hn b o ea => ⟨i2 hn b o ea, ?_⟩⟩, h3, h4⟩
  · obtain ⟨b', o', e', hb, _⟩ := h1.sl.2 hn
    rw [ea] at e'; injection e' with e'; injection e' with e1 _; rw [e1]; exact hb
  · obtain ⟨b', o', e', hb, _⟩ := h2.sl.2 hn
    rw [ea] at e'; injection e' with e'; injection e' with e1 _; rw [e1]; exact hb
theorem PatsIn.both {w : World} {G : Nat → Prop} {A : Option Addr} {n : Nat} {l : List PatV} (h : PatsIn w G A n l) : PatsIn w (fun q => G q ∧ q < w.heap.size) A n l := by
  obtain ⟨rows, h1, h2⟩ := h.ex
  refine ⟨h.len, fun hn b o ea => ⟨h.inb hn b o ea, ?_⟩, rows, ⟨h1.1, fun k r p e1 e2 => (h1.2 k r p e1 e2).both⟩, h2⟩
  obtain ⟨b', o', e', hb, _⟩ := h2.2 hn
  rw [ea] at e'; injection e' with e'; injection e' with e1 _; rw [e1]; exact hb
section
variable {w wr w' : World} {g gx : Nat} {room : Int} {L : List PatV} {A : Option Addr} {c : Nat} {F G : Nat → Prop}
theorem DuoAt.ext (h : DuoAt w wr g gx room L A c F G) (hb : Below wr.heap.size wr w') : DuoAt w w' g gx room L A c F G := by
  obtain ⟨h1, h2, h3, h4, h5, h6, h7, h8, h9, h10⟩ := h
  exact ⟨h1.ext hb, h2.ext hb, h3.ext hb, h4, fun k e => Nat.lt_of_lt_of_le (h5 k e) hb.size, h6, h7, h8, h9, h10⟩
theorem Duo.ext (h : Duo w wr g gx room L) (hb : Below wr.heap.size wr w') : Duo w w' g gx room L := by
  obtain ⟨A, c, F, G, h⟩ := h
  exact ⟨A, c, F, G, h.ext hb⟩
theorem DuoAt.step {w1 w2 w3 w4 : World} {A' : Option Addr} {c' : Nat} {F' : Nat → Prop} {L' : List PatV} (h : DuoAt w w1 g gx room L A c F G) (hP2 : PatsIn w2 (fun k => G k ∨ w1.heap.size ≤ k) A' L'.length L') (b12 : Below w1.heap.size w1 w2) (b23 : Below w2.heap.size w2 w3) (k34 : Kept F w3 w4) (hp4 : PoolAt w4 F' g room L') (hF' : ∀ k, F' k → F k ∨ w3.heap.size ≤ k) :
    Blk w4 gx 29 (rpV room A L.length c) ∧ Duo w (w4.setRow gx (rpV room A' L'.length c')) g gx room L' := by
  obtain ⟨h1, h2, h3, h4, h5, h6, h7, h8, h9, h10⟩ := h
  have s12 := b12.size
  have s23 := b23.size
  have s34 := k34.size
  have gl : gx < w1.heap.size := h2.lt
  have B4 : Blk w4 gx 29 (rpV room A L.length c) := k34.blk ((h2.ext b12).ext b23) h7
  have hne : ∀ k, (G k ∨ w1.heap.size ≤ k) → k ≠ gx := fun k e c => e.elim (fun e => h8 (c ▸ e)) (fun e => by omega)
  have P4 := ((hP2.both.ext b23).stay (k34.stay fun k _ e hF => e.1.elim (fun e => h6 k e hF) (fun e => by have := h1.lt k hF; omega)))
  refine ⟨B4, A', c', F', fun k => (G k ∨ w1.heap.size ≤ k) ∧ k < w2.heap.size, ?_, B4.row _, ?_, fun k e => ⟨.inl (h4 k e), by have := h5 k (h4 k e); omega⟩, fun k e => ?_, fun k e hF => ?_, fun e => ?_, fun e => hne gx e.1 rfl, fun k e => ?_, h10⟩
  · exact hp4.stay ⟨by simp, fun k _ hF => setRow_other _ _ _ _ (by
      rintro rfl
      rcases hF' _ hF with e | e
      · exact h7 e
      · omega)⟩
  · exact P4.stay ⟨by simp, fun k _ e => setRow_other _ _ _ _ (hne k e.1)⟩
  · have := e.2
    simp
    omega
  · rcases hF' k hF with e' | e'
    · exact e.1.elim (fun e => h6 k e e') (fun e => by have := h1.lt k e'; omega)
    · have := e.2; omega
  · rcases hF' gx e with e | e
    · exact h7 e
    · omega
  · rcases hF' k e with e | e
    · exact h9 k e
    · omega
end
theorem neqBlX (xs : List Nat) (hx : BlOk xs) (w : World) : (binOp .neq 60 (.agg (encBl xs).toArray) (.agg (encBl xs).toArray)).run Tryz.prog w = .ok (.bool false) w := by
  rw [bl_ints]
  refine (run_neq_ints underBl (by kernel_rfl) (fun u => by kernel_rfl) (fun u => by kernel_rfl) _ _ (by simp [hx.1]) (by simp [hx.1]) w).trans ?_
  simp
def zeroAct : Array Value := (.int .u8 0 :: ([.int .u8 0, .int .u16 0, .slice none 0 0, .slice none 0 0] ++ vec0.map (Value.int .u16))).toArray
theorem allocAct (w : World) : (Instr.alloc 41 true (.tuple #[])).run Tryz.prog w = .ok (.pointer (some ⟨w.heap.size, 0, none⟩)) (w.alloc (.cells zeroAct 41)) := by kernel_rfl
theorem zeroAct_len : zeroAct.size = 69 := by decide
set_option maxRecDepth 100000 in
set_option maxHeartbeats 16000000 in
theorem poolPlays_walk (w : World) (room : Int) (_ : (Lit.int .i64 room).wf = true) (l : List ActV) (A : Option Addr) (n c : Nat) (hm : n ≤ maxLen) (h : ActsAt w A n l) :
    Calls Tryz.prog 3 #[.int .i64 room, .slice A n c] w (RetB w (.bool true)) := by
  have H0 := Lib.hid h
  have HF := Lib.hid (few32_any l w A n c h hm)
  unfold maxLen at hm
  have hm1 : (n : Int) ≤ 9223372036854775807 := by omega
  clear h
  go_enter Tryz.func3, Tryz.ntmps3
  cases hf : fewA l
  · rw [hf] at HF
    go_wp2_with fail
    refine HF.out.mono ?_
    rintro e w3 ⟨rfl, b3⟩
    have B3 := Lib.hid b3
    clear b3 HF
    go_wp2_with fail
    refine (works32 _).mono ?_
    rintro e w4 ⟨rfl, b4⟩
    have B4 := Lib.hid (B3.out.trans (b4.mono B3.out.size))
    clear b4
    go_wp2
    go_ret
    exact ⟨rfl, B4.out⟩
  · rw [hf] at HF
    have HQ : Hid (∀ a ∈ l, a.2.1.2.1.length ≤ 100 ∧ a.2.1.2.2.length ≤ 60) := fun a ha => by
      unfold fewA at hf
      rw [Bool.and_eq_true, List.all_eq_true] at hf
      exact (fews_at (hf.2 a ha)).2 a.2.1 (by simp)
    go_wp2_with fail
    refine HF.out.mono ?_
    rintro e w3 ⟨rfl, b3⟩
    have B3 := Lib.hid b3
    clear b3 HF hf
    go_wp2_with fail
    refine (newPl_any room _).mono ?_
    rintro e w4 ⟨g, rfl, hP, b4⟩
    have HP := Lib.hid hP
    have B4 := Lib.hid (B3.out.trans (b4.mono B3.out.size))
    have h34 : Hid (w3.heap.size ≤ w4.heap.size) := b4.size
    have hw3 : Hid (w.heap.size ≤ w3.heap.size) := B3.out.size
    clear hP b4 B3
    go_wp2_with fail
    refine (rnewPl_any room _).mono ?_
    rintro e w5 ⟨rfl, b5⟩
    have HP := Lib.hid (HP.out.ext b5)
    have B5 := Lib.hid (B4.out.trans (b5.mono B4.out.size))
    have h45 : Hid (w4.heap.size ≤ w5.heap.size) := b5.size
    clear b5 B4
    have HRM := Lib.hid (roomV_ok room)
    generalize roomV room = rm at *
    have M : Hid (Below w5.heap.size w5 ((w5.alloc (.cells #[.int .i64 0, .slice none 0 0] 29)).setRow w5.heap.size (rpV rm none 0 0))) := below_setRow ((Below.refl _ _).alloc (Nat.le_refl _) _) (Nat.le_refl _) _
    have KX : Hid (Blk ((w5.alloc (.cells #[.int .i64 0, .slice none 0 0] 29)).setRow w5.heap.size (rpV rm none 0 0)) w5.heap.size 29 (rpV rm none ([] : List PatV).length 0)) := (Blk.new _ _ _).row _
    go_upto_region 4 with (first
      | (refine wpList_alloced (allocRp _) ?_)
      | (refine wpList_store_row rfl 29 _ _ (by rfl) w5.heap.size (rpV rm none 0 0) (by rfl) (by rfl) _ _ (Blk.new _ _ _) infoRp rfl rpV_one ?_))
    have B6 := Lib.hid (B5.out.trans (M.out.mono B5.out.size))
    have DU : Hid (Duo w ((w5.alloc (.cells #[.int .i64 0, .slice none 0 0] 29)).setRow w5.heap.size (rpV rm none 0 0)) g w5.heap.size rm []) := by
      refine ⟨none, 0, _, fun k => k < w.heap.size, HP.out.ext M.out, KX.out, ⟨rfl, fun h => absurd h (by simp), [], RowsIn.nil _ _, ⟨rfl, fun h => absurd h (by simp)⟩⟩, fun k e => e, fun k e => ?_, fun k e e2 => ?_, fun e => ?_, fun e => ?_, fun k e => ?_, ?_⟩
      · have := B6.out.size; omega
      · have := e2.1; have := hw3.out; omega
      · have := e.2; have := h45.out; omega
      · have := hw3.out; have := h34.out; have := h45.out; omega
      · have := e.1; have := hw3.out; omega
      · have := hw3.out; have := h34.out; have := h45.out; omega
    clear M KX HP B5 h45 h34 hw3
    generalize ((w5.alloc (.cells #[.int .i64 0, .slice none 0 0] 29)).setRow w5.heap.size (rpV rm none 0 0)) = w6 at *
    generalize w5.heap.size = gx at *
    go_wp2_with fail
    go_loopw [7] (fun i wr => ∃ (k : Nat) (L : List PatV), k ≤ n ∧ i = .int .i64 k ∧ Hid (Duo w wr g gx rm L) ∧ Hid (PolOk rm L) ∧ Hid (Below w.heap.size w wr)) (fun i _ => n - (intOf i).toNat)
    case atStart => exact ⟨0, [], by omega, rfl, DU.out, PolOk.nil HRM.out.1 HRM.out.2, B6.out⟩
    case round =>
      clear DU B6
      obtain ⟨k, L, hk, rfl, DU, OK, B⟩ := hrel
      have hk0 : (0 : Int) ≤ (k : Int) := by omega
      by_cases hlt : k < n
      · have hlk : (k : Int) < (n : Int) := by omega
        obtain ⟨b, o, a, r, rfl, hb, ha, pa, R⟩ := H0.out.at_ hlt
        have hq := Lib.hid (HQ.out a (List.mem_of_getElem? ha))
        have R := Lib.hid (rangeAt_below R B.out hb)
        have hlen := pa.len
        have hone := all_oneCell_toArray pa.one
        have hi1 : (Tryz.prog.info? 41).map (·.size) = some r.toArray.size := by rw [List.size_toArray, hlen]; exact infoAct
        have hi2 : (Tryz.prog.info? 41).map (·.size) = some r.length := by rw [hlen]; exact infoAct
        have hold : zeroAct.size = r.toArray.size := by rw [zeroAct_len, List.size_toArray, hlen]
        have M : Hid (Below wr.heap.size wr ((wr.alloc (.cells zeroAct 41)).setRow wr.heap.size r.toArray)) := below_setRow ((Below.refl _ _).alloc (Nat.le_refl _) _) (Nat.le_refl _) _
        have KA : Hid (Blk ((wr.alloc (.cells zeroAct 41)).setRow wr.heap.size r.toArray) wr.heap.size 41 r.toArray) := (Blk.new _ _ _).row _
        obtain ⟨AX, cx, F, G, D0⟩ := DU.out
        have hFn : Hid (¬ F wr.heap.size) := fun e => absurd (D0.1.lt _ e) (Nat.lt_irrefl _)
        have D := Lib.hid (D0.ext M.out)
        clear D0 DU
        have PA := Lib.hid pa
        have BW := Lib.hid (B.out.trans (M.out.mono B.out.size))
        clear pa ha hb
        go_upto_region 9 with (first
          | (refine wpList_load_mid rfl 41 _ (by rfl) b (o + k * 69) (by rfl) _ _ R.out underAct rfl hi2 ?_)
          | (refine wpList_alloced (allocAct _) ?_)
          | (refine wpList_store_row rfl 41 _ _ (by rfl) wr.heap.size r.toArray (by rfl) (by rfl) _ _ (Blk.new _ _ _) hi1 hold hone ?_))
        clear hi1 hi2 hold hone hlen R
        generalize hW : ((wr.alloc (.cells zeroAct 41)).setRow wr.heap.size r.toArray) = w1 at *
        generalize wr.heap.size = ga at *
        clear hW M
        obtain ⟨rp, hr, hpp⟩ := PA.out.ex
        subst hr
        have y0 : w1.cell? ⟨ga, 0, none⟩ = some (.int .u8 a.1) := KA.out.cell 0
        have hvc := PA.out.vec
        have hl4 : rp.length = 4 := hpp.len4
        have HVV := Lib.hid hvc
        have HPP := Lib.hid hpp
        clear PA hpp
        obtain ⟨z, p, v⟩ := a
        simp only at y0 HVV HPP hq KA hvc
        have RPT : Hid (∀ u : World, Blk u ga 41 (Value.int .u8 z :: (rp ++ v.map (Value.int .u16))).toArray → u.rangeAt ga (0 + 1) rp) := fun u hb => act_pat hb.range
        have RVT : Hid (∀ u : World, Blk u ga 41 (Value.int .u8 z :: (rp ++ v.map (Value.int .u16))).toArray → u.rangeAt ga (0 + 5) (v.map (Value.int .u16))) := fun u hb => act_vec hb.range hl4
        have hi4 : (Tryz.prog.info? 37).map (·.size) = some rp.length := by rw [hl4]; exact infoPat
        simp only [Nat.zero_add] at RPT RVT
        go_upto_block 2 with fail
        go_cut [9] (fun v' wx => v' = .bool true ∧ ∃ L', Duo w wx g gx rm L' ∧ PolOk rm L' ∧ Blk wx ga 41 (Value.int .u8 z :: (rp ++ v.map (Value.int .u16))).toArray ∧ Below w.heap.size w wx)
        case first =>
          have HP := Lib.hid D.out.1
          have KX := Lib.hid D.out.2.1
          have HG : Hid (∀ k, G k → k < w1.heap.size) := D.out.2.2.2.2.1
          have hFga : Hid (ga < w1.heap.size) := KA.out.lt
          have hL := OK.out.few32
          have RP := Lib.hid (RPT.out w1 KA.out)
          have RV := Lib.hid (RVT.out w1 KA.out)
          have PIN : Hid (PatIn w1 G rp p) := (HPP.out.in_.ext BW.out).mono D.out.2.2.2.1
          have RPID : Hid (∀ u : World, u.rangeAt ga 1 rp → u.rangeAt ga 1 (encP p.1)) := by
            obtain ⟨⟨A3, c3, A4, c4, rfl, _, _⟩, _, _⟩ := HPP.out
            exact fun u h => pid_range h
          by_cases h0 : z = 0
          · subst h0
            go_wp2_with (first
              | (refine wpList_load_row rfl 29 _ (by rfl) gx (by rfl) _ _ _ _ KX.out underRp rfl infoRp ?_)
              | (refine wpList_load_mid rfl 37 _ (by rfl) ga 1 (by rfl) _ _ RP.out underPat rfl hi4 ?_))
            refine (rputPl_any L rm p w1 G HG.out AX cx D.out.2.2.1 rp PIN.out (by omega)).mono ?_
            rintro e w2 ⟨A2, c2, rfl, P2, b2⟩
            have P2 := Lib.hid P2
            have M2 : Hid (Below w2.heap.size w2 ((w2.alloc (.cells #[.int .i64 0, .slice none 0 0] 29)).setRow w2.heap.size (rpV rm A2 (polL rm L p).length c2))) := below_setRow ((Below.refl _ _).alloc (Nat.le_refl _) _) (Nat.le_refl _) _
            have KN : Hid (Blk ((w2.alloc (.cells #[.int .i64 0, .slice none 0 0] 29)).setRow w2.heap.size (rpV rm A2 (polL rm L p).length c2)) w2.heap.size 29 (rpV rm A2 (polL rm L p).length c2)) := (Blk.new _ _ _).row _
            have B2 := Lib.hid b2
            have hgn : Hid (¬ F w2.heap.size) := fun e => by have := HP.out.lt _ e; have := b2.size; omega
            clear b2
            go_upto_region 12 with (first
              | (refine wpList_alloced (allocRp _) ?_)
              | (refine wpList_store_row rfl 29 _ _ (by rfl) w2.heap.size (rpV rm A2 (polL rm L p).length c2) (by rfl) (by rfl) _ _ (Blk.new _ _ _) infoRp rfl rpV_one ?_))
            generalize hW3 : ((w2.alloc (.cells #[.int .i64 0, .slice none 0 0] 29)).setRow w2.heap.size (rpV rm A2 (polL rm L p).length c2)) = w3 at *
            clear hW3
            have B13 := Lib.hid (B2.out.trans (M2.out.mono B2.out.size))
            have HP3 := Lib.hid (HP.out.ext B13.out)
            have KA3 := Lib.hid (KA.out.ext B13.out)
            have RP3 := Lib.hid (RPT.out w3 KA3.out)
            have RV3 := Lib.hid (RVT.out w3 KA3.out)
            have BW3 := Lib.hid (BW.out.trans (B13.out.mono BW.out.size))
            have HU := Lib.hid (putPl_any HP3.out OK.out.most p rp (HPP.out.ext BW3.out) ⟨by have := hq.out.1; omega, by have := hq.out.2; omega⟩)
            go_wp2_with (refine wpList_load_mid rfl 37 _ (by rfl) ga 1 (by rfl) _ _ RP3.out underPat rfl hi4 ?_)
            refine HU.out.mono ?_
            rintro e w4 ⟨rfl, kf, F', hp4, hF'⟩
            have ST := Lib.hid (D.out.step (c' := c2) P2.out B2.out M2.out kf hp4 hF')
            have B4 := Lib.hid ST.out.1
            have DU4 := Lib.hid ST.out.2
            clear ST
            have KN4 := Lib.hid (kf.blk KN.out hgn.out)
            have KA4 := Lib.hid (kf.blk KA3.out hFn.out)
            have hax := Lib.hid (blk_ne_blk KA4.out B4.out (by decide))
            have KA5 := Lib.hid (KA4.out.rowFar hax.out (rpV rm A2 (polL rm L p).length c2))
            have BW5 := Lib.hid (below_setRow (BW3.out.trans (kf.below (fun k e => D.out.2.2.2.2.2.2.2.2.1 k e) BW3.out.size)) D.out.2.2.2.2.2.2.2.2.2 (rpV rm A2 (polL rm L p).length c2))
            clear kf hp4 hF' HU P2 B2 M2 B13 HP3 RP3 RV3
            go_wp2_with (first
              | (refine wpList_load_row rfl 29 _ (by rfl) w2.heap.size (by rfl) _ _ _ _ KN4.out underRp rfl infoRp ?_)
              | (refine wpList_store_row rfl 29 _ _ (by rfl) gx (rpV rm A2 (polL rm L p).length c2) (by rfl) (by rfl) _ _ B4.out infoRp rfl rpV_one ?_))
            go_meet
            case rel => exact ⟨rfl, _, DU4.out, OK.out.put p, KA5.out, BW5.out⟩
          · have d0 : (z == 0) = false := beq_eq_false_iff_ne.2 h0
            by_cases h1 : z = 1
            · subst h1
              go_wp2_with (first
                | (refine wpList_load_row rfl 29 _ (by rfl) gx (by rfl) _ _ _ _ KX.out underRp rfl infoRp ?_)
                | (refine wpList_load_mid rfl 33 _ (by rfl) ga 1 (by rfl) _ _ (RPID.out w1 RP.out) underPid rfl infoPid ?_))
              refine (rdropPl_any L rm p.1 w1 G HG.out AX cx D.out.2.2.1 (by omega)).mono ?_
              rintro e w2 ⟨A2, c2, rfl, P2, b2⟩
              have P2 := Lib.hid P2
              have M2 : Hid (Below w2.heap.size w2 ((w2.alloc (.cells #[.int .i64 0, .slice none 0 0] 29)).setRow w2.heap.size (rpV rm A2 (dropL L p.1).length c2))) := below_setRow ((Below.refl _ _).alloc (Nat.le_refl _) _) (Nat.le_refl _) _
              have KN : Hid (Blk ((w2.alloc (.cells #[.int .i64 0, .slice none 0 0] 29)).setRow w2.heap.size (rpV rm A2 (dropL L p.1).length c2)) w2.heap.size 29 (rpV rm A2 (dropL L p.1).length c2)) := (Blk.new _ _ _).row _
              have B2 := Lib.hid b2
              have hgn : Hid (¬ F w2.heap.size) := fun e => by have := HP.out.lt _ e; have := b2.size; omega
              clear b2
              go_upto_region 16 with (first
                | (refine wpList_alloced (allocRp _) ?_)
                | (refine wpList_store_row rfl 29 _ _ (by rfl) w2.heap.size (rpV rm A2 (dropL L p.1).length c2) (by rfl) (by rfl) _ _ (Blk.new _ _ _) infoRp rfl rpV_one ?_))
              generalize hW3 : ((w2.alloc (.cells #[.int .i64 0, .slice none 0 0] 29)).setRow w2.heap.size (rpV rm A2 (dropL L p.1).length c2)) = w3 at *
              clear hW3
              have B13 := Lib.hid (B2.out.trans (M2.out.mono B2.out.size))
              have HP3 := Lib.hid (HP.out.ext B13.out)
              have KA3 := Lib.hid (KA.out.ext B13.out)
              have RP3 := Lib.hid (RPT.out w3 KA3.out)
              have RV3 := Lib.hid (RVT.out w3 KA3.out)
              have BW3 := Lib.hid (BW.out.trans (B13.out.mono BW.out.size))
              have HU := Lib.hid (dropPl_any HP3.out p.1)
              go_wp2_with (refine wpList_load_mid rfl 33 _ (by rfl) ga 1 (by rfl) _ _ (RPID.out w3 RP3.out) underPid rfl infoPid ?_)
              refine HU.out.mono ?_
              rintro e w4 ⟨rfl, kf, hp4⟩
              have hF' : ∀ k, F k → F k ∨ w3.heap.size ≤ k := fun _ e => .inl e
              have ST := Lib.hid (D.out.step (c' := c2) P2.out B2.out M2.out kf hp4 hF')
              have B4 := Lib.hid ST.out.1
              have DU4 := Lib.hid ST.out.2
              clear ST
              have KN4 := Lib.hid (kf.blk KN.out hgn.out)
              have KA4 := Lib.hid (kf.blk KA3.out hFn.out)
              have hax := Lib.hid (blk_ne_blk KA4.out B4.out (by decide))
              have KA5 := Lib.hid (KA4.out.rowFar hax.out (rpV rm A2 (dropL L p.1).length c2))
              have BW5 := Lib.hid (below_setRow (BW3.out.trans (kf.below (fun k e => D.out.2.2.2.2.2.2.2.2.1 k e) BW3.out.size)) D.out.2.2.2.2.2.2.2.2.2 (rpV rm A2 (dropL L p.1).length c2))
              clear kf hp4 hF' HU P2 B2 M2 B13 HP3 RP3 RV3
              go_wp2_with (first
                | (refine wpList_load_row rfl 29 _ (by rfl) w2.heap.size (by rfl) _ _ _ _ KN4.out underRp rfl infoRp ?_)
                | (refine wpList_store_row rfl 29 _ _ (by rfl) gx (rpV rm A2 (dropL L p.1).length c2) (by rfl) (by rfl) _ _ B4.out infoRp rfl rpV_one ?_))
              go_meet
              case rel => exact ⟨rfl, _, DU4.out, OK.out.drop p.1, KA5.out, BW5.out⟩
            · have d1 : (z == 1) = false := beq_eq_false_iff_ne.2 h1
              by_cases h2 : z = 2
              · subst h2
                go_wp2_with (first
                  | (refine wpList_load_row rfl 29 _ (by rfl) gx (by rfl) _ _ _ _ KX.out underRp rfl infoRp ?_)
                  | (refine wpList_load_mid rfl 39 _ (by rfl) ga 5 (by rfl) _ _ RV.out under64 rfl (info64' HVV.out) ?_))
                refine (rprunePl_any L rm v HVV.out w1 G HG.out AX cx D.out.2.2.1 (by omega)).mono ?_
                rintro e w2 ⟨A2, c2, rfl, P2, b2⟩
                have P2 := Lib.hid P2
                have M2 : Hid (Below w2.heap.size w2 ((w2.alloc (.cells #[.int .i64 0, .slice none 0 0] 29)).setRow w2.heap.size (rpV rm A2 (lackP v L).length c2))) := below_setRow ((Below.refl _ _).alloc (Nat.le_refl _) _) (Nat.le_refl _) _
                have KN : Hid (Blk ((w2.alloc (.cells #[.int .i64 0, .slice none 0 0] 29)).setRow w2.heap.size (rpV rm A2 (lackP v L).length c2)) w2.heap.size 29 (rpV rm A2 (lackP v L).length c2)) := (Blk.new _ _ _).row _
                have B2 := Lib.hid b2
                have hgn : Hid (¬ F w2.heap.size) := fun e => by have := HP.out.lt _ e; have := b2.size; omega
                clear b2
                go_upto_region 20 with (first
                  | (refine wpList_alloced (allocRp _) ?_)
                  | (refine wpList_store_row rfl 29 _ _ (by rfl) w2.heap.size (rpV rm A2 (lackP v L).length c2) (by rfl) (by rfl) _ _ (Blk.new _ _ _) infoRp rfl rpV_one ?_))
                generalize hW3 : ((w2.alloc (.cells #[.int .i64 0, .slice none 0 0] 29)).setRow w2.heap.size (rpV rm A2 (lackP v L).length c2)) = w3 at *
                clear hW3
                have B13 := Lib.hid (B2.out.trans (M2.out.mono B2.out.size))
                have HP3 := Lib.hid (HP.out.ext B13.out)
                have KA3 := Lib.hid (KA.out.ext B13.out)
                have RP3 := Lib.hid (RPT.out w3 KA3.out)
                have RV3 := Lib.hid (RVT.out w3 KA3.out)
                have BW3 := Lib.hid (BW.out.trans (B13.out.mono BW.out.size))
                have HU := Lib.hid (prunePl_any HP3.out v HVV.out)
                go_wp2_with (refine wpList_load_mid rfl 39 _ (by rfl) ga 5 (by rfl) _ _ RV3.out under64 rfl (info64' HVV.out) ?_)
                refine HU.out.mono ?_
                rintro e w4 ⟨rfl, kf, hp4⟩
                have hF' : ∀ k, F k → F k ∨ w3.heap.size ≤ k := fun _ e => .inl e
                have ST := Lib.hid (D.out.step (c' := c2) P2.out B2.out M2.out kf hp4 hF')
                have B4 := Lib.hid ST.out.1
                have DU4 := Lib.hid ST.out.2
                clear ST
                have KN4 := Lib.hid (kf.blk KN.out hgn.out)
                have KA4 := Lib.hid (kf.blk KA3.out hFn.out)
                have hax := Lib.hid (blk_ne_blk KA4.out B4.out (by decide))
                have KA5 := Lib.hid (KA4.out.rowFar hax.out (rpV rm A2 (lackP v L).length c2))
                have BW5 := Lib.hid (below_setRow (BW3.out.trans (kf.below (fun k e => D.out.2.2.2.2.2.2.2.2.1 k e) BW3.out.size)) D.out.2.2.2.2.2.2.2.2.2 (rpV rm A2 (lackP v L).length c2))
                clear kf hp4 hF' HU P2 B2 M2 B13 HP3 RP3 RV3
                go_wp2_with (first
                  | (refine wpList_load_row rfl 29 _ (by rfl) w2.heap.size (by rfl) _ _ _ _ KN4.out underRp rfl infoRp ?_)
                  | (refine wpList_store_row rfl 29 _ _ (by rfl) gx (rpV rm A2 (lackP v L).length c2) (by rfl) (by rfl) _ _ B4.out infoRp rfl rpV_one ?_))
                go_meet
                case rel => exact ⟨rfl, _, DU4.out, OK.out.sub List.filter_sublist, KA5.out, BW5.out⟩
              · have d2 : (z == 2) = false := beq_eq_false_iff_ne.2 h2
                have DU1 : Hid (Duo w w1 g gx rm L) := ⟨AX, cx, F, G, D.out⟩
                go_wp2_with fail
                go_meet
                case rel => exact ⟨rfl, L, DU1.out, OK.out, KA.out, BW.out⟩
        case rest =>
          obtain ⟨rfl, L', du, ok', ka, bx⟩ := hcut
          obtain ⟨wx, rfl⟩ : ∃ wx, wx = wc := ⟨_, rfl⟩
          have ok' := Lib.hid ok'
          have KA := Lib.hid ka
          have BX := Lib.hid bx
          obtain ⟨AY, cy, F, G, D⟩ := du
          have DY := Lib.hid D
          clear ka bx
          have RV := Lib.hid (RVT.out wx KA.out)
          have hL := ok'.out.few32
          have hLm : Hid (L'.length ≤ maxLen) := by rw [Hid]; unfold maxLen; omega
          obtain ⟨okk, q, hokk, hgq⟩ : ∃ okk q, (readyL v L').isSome = okk ∧ (readyL v L').getD zeroPat = q := ⟨_, _, rfl, rfl⟩
          go_wp2_with (refine wpList_load_mid rfl 39 _ (by rfl) ga 5 (by rfl) _ _ RV.out under64 rfl (info64' HVV.out) ?_)
          refine (readyPl_any DY.out.1 v HVV.out).mono ?_
          rintro e w21 ⟨r1, rfl, pr1, b21⟩
          rw [hgq] at pr1
          rw [hokk]
          have PR1 := Lib.hid pr1
          obtain ⟨⟨A1, c1, A2, c2, rfl, _, _, _, _⟩, _, _⟩ := PR1.out
          have M : Hid (Below w21.heap.size w21 ((w21.alloc (.cells #[.int .u8 0, .int .u16 0, .slice none 0 0, .slice none 0 0] 37)).setRow w21.heap.size (patC q.1 A1 q.2.1.length c1 A2 q.2.2.length c2).toArray)) := below_setRow ((Below.refl _ _).alloc (Nat.le_refl _) _) (Nat.le_refl _) _
          have KQ1 : Hid (Blk ((w21.alloc (.cells #[.int .u8 0, .int .u16 0, .slice none 0 0, .slice none 0 0] 37)).setRow w21.heap.size (patC q.1 A1 q.2.1.length c1 A2 q.2.2.length c2).toArray) w21.heap.size 37 (patC q.1 A1 q.2.1.length c1 A2 q.2.2.length c2).toArray) := (Blk.new _ _ _).row _
          have BD := Lib.hid (b21.trans (M.out.mono b21.size))
          clear pr1 b21
          go_upto_region 23 with (first
            | (refine wpList_alloced (allocPat _) ?_)
            | (refine wpList_store_row rfl 37 _ _ (by rfl) w21.heap.size (patC q.1 A1 q.2.1.length c1 A2 q.2.2.length c2).toArray (by rfl) (by rfl) _ _ (Blk.new _ _ _) infoPat rfl patC_one ?_))
          have DY := Lib.hid (DY.out.ext BD.out)
          have KA := Lib.hid (KA.out.ext BD.out)
          have PR1 := Lib.hid (PR1.out.ext M.out)
          have BX := Lib.hid (BX.out.trans (BD.out.mono BX.out.size))
          clear BD M RV
          generalize ((w21.alloc (.cells #[.int .u8 0, .int .u16 0, .slice none 0 0, .slice none 0 0] 37)).setRow w21.heap.size (patC q.1 A1 q.2.1.length c1 A2 q.2.2.length c2).toArray) = w22 at *
          generalize w21.heap.size = g16 at *
          have RV := Lib.hid (RVT.out w22 KA.out)
          have KX := Lib.hid DY.out.2.1
          have HRR := rreadyPl_any L' ok'.out.good rm v HVV.out w22 G DY.out.2.2.2.2.1 AY L'.length cy DY.out.2.2.1 (by omega)
          rw [hokk, hgq] at HRR
          have HRR := Lib.hid HRR
          go_wp2_with (first
            | (refine wpList_load_row rfl 29 _ (by rfl) gx (by rfl) _ _ _ _ KX.out underRp rfl infoRp ?_)
            | (refine wpList_load_mid rfl 39 _ (by rfl) ga 5 (by rfl) _ _ RV.out under64 rfl (info64' HVV.out) ?_))
          refine HRR.out.mono ?_
          rintro e w23 ⟨r2, rfl, pr2, b23⟩
          have PR2 := Lib.hid pr2
          obtain ⟨⟨A3, c3, A4, c4, rfl, _, _, _, _⟩, _, _⟩ := PR2.out
          have M : Hid (Below w23.heap.size w23 ((w23.alloc (.cells #[.int .u8 0, .int .u16 0, .slice none 0 0, .slice none 0 0] 37)).setRow w23.heap.size (patC q.1 A3 q.2.1.length c3 A4 q.2.2.length c4).toArray)) := below_setRow ((Below.refl _ _).alloc (Nat.le_refl _) _) (Nat.le_refl _) _
          have KQ2 : Hid (Blk ((w23.alloc (.cells #[.int .u8 0, .int .u16 0, .slice none 0 0, .slice none 0 0] 37)).setRow w23.heap.size (patC q.1 A3 q.2.1.length c3 A4 q.2.2.length c4).toArray) w23.heap.size 37 (patC q.1 A3 q.2.1.length c3 A4 q.2.2.length c4).toArray) := (Blk.new _ _ _).row _
          have BD := Lib.hid (b23.trans (M.out.mono b23.size))
          clear pr2 b23 HRR
          go_upto_region 24 with (first
            | (refine wpList_alloced (allocPat _) ?_)
            | (refine wpList_store_row rfl 37 _ _ (by rfl) w23.heap.size (patC q.1 A3 q.2.1.length c3 A4 q.2.2.length c4).toArray (by rfl) (by rfl) _ _ (Blk.new _ _ _) infoPat rfl patC_one ?_))
          have DY := Lib.hid (DY.out.ext BD.out)
          have PR1 := Lib.hid (PR1.out.ext BD.out)
          have PR2 := Lib.hid (PR2.out.ext M.out)
          have KQ1 := Lib.hid (KQ1.out.ext BD.out)
          have B24 := Lib.hid (BX.out.trans (BD.out.mono BX.out.size))
          clear BD M RV KX BX KA
          generalize ((w23.alloc (.cells #[.int .u8 0, .int .u16 0, .slice none 0 0, .slice none 0 0] 37)).setRow w23.heap.size (patC q.1 A3 q.2.1.length c3 A4 q.2.2.length c4).toArray) = w24 at *
          generalize w23.heap.size = g18 at *
          have DX : Hid (Duo w w24 g gx rm L') := ⟨AY, cy, F, G, DY.out⟩
          have HP := Lib.hid DY.out.1
          have KX := Lib.hid DY.out.2.1
          have PY := Lib.hid DY.out.2.2.1.at_
          have RQ1 := Lib.hid (blk_pat KQ1.out)
          have g16l : Hid (g16 < w24.heap.size) := KQ1.out.lt
          have RQ2 := Lib.hid (blk_pat KQ2.out)
          have g18l : Hid (g18 < w24.heap.size) := KQ2.out.lt
          have RX : Hid (w24.rangeAt gx 0 [.int .i64 rm, .slice AY L'.length cy]) := blk_pat KX.out
          have gxl : Hid (gx < w24.heap.size) := KX.out.lt
          have HSM : Hid (∀ u, Below w24.heap.size w24 u → Calls Tryz.prog 17 #[.agg (patC q.1 A1 q.2.1.length c1 A2 q.2.2.length c2).toArray, .agg (patC q.1 A3 q.2.1.length c3 A4 q.2.2.length c4).toArray] u (RetB u (.bool true))) := fun u hu => by
            have := rpsame q q u _ _ (PR1.out.ext hu).at_ (PR2.out.ext hu).at_
            rw [decide_eq_true rfl] at this
            exact this
          have HLN := Lib.hid (fun (u : World) (hu : Below w24.heap.size w24 u) => lenPl_any (HP.out.ext hu))
          have HAL := Lib.hid (fun (u : World) (hu : Below w24.heap.size w24 u) => allPl_any (HP.out.ext hu))
          have HPY := Lib.hid (fun (u : World) (hu : Below w24.heap.size w24 u) => PY.out.ext hu)
          have HBL := Lib.hid (fun (u : World) (hu : Below w24.heap.size w24 u) => bloomPl_any (HP.out.ext hu))
          have HRB := Lib.hid (fun (u : World) (hu : Below w24.heap.size w24 u) => rbloomPl_any L' rm u AY L'.length cy (PY.out.ext hu) (by omega))
          have HC1 : Hid (∀ u, Below w24.heap.size w24 u → u.cell? ⟨gx, 1, none⟩ = some (.slice AY L'.length cy)) := fun u hu => (KX.out.ext hu).cell 1
          have NBB : ∀ u : World, (binOp .neq 4 (.bool okk) (.bool okk)).run Tryz.prog u = .ok (.bool false) u := fun u => by cases okk <;> kernel_rfl
          have NLL : ∀ u : World, (binOp .neq 3 (.int .i64 (L'.length : Int)) (.int .i64 (L'.length : Int))).run Tryz.prog u = .ok (.bool false) u := fun u => by rw [neqI, decide_eq_true rfl]; rfl
          have NXB : ∀ u : World, (binOp .neq 60 (.agg (encBl (ofN (idsV L'))).toArray) (.agg (encBl (ofN (idsV L'))).toArray)).run Tryz.prog u = .ok (.bool false) u := fun u => by
            exact neqBlX _ (ofN_ok (idsV L')) u
          generalize (encBl (ofN (idsV L'))).toArray = xb at *
          have hcS : ∀ args u, (callFunc 17 args).run Tryz.prog u = .ok (.enter 17 args) u := enters_of Tryz.func17 (by kernel_rfl) rfl
          have hcN : ∀ args u, (callFunc 18 args).run Tryz.prog u = .ok (.enter 18 args) u := enters_of Tryz.func18 (by kernel_rfl) rfl
          have hcA : ∀ args u, (callFunc 20 args).run Tryz.prog u = .ok (.enter 20 args) u := enters_of Tryz.func20 (by kernel_rfl) rfl
          have hcP : ∀ args u, (callFunc 19 args).run Tryz.prog u = .ok (.enter 19 args) u := enters_of Tryz.func19 (by kernel_rfl) rfl
          have hcB : ∀ args u, (callFunc 21 args).run Tryz.prog u = .ok (.enter 21 args) u := enters_of Tryz.func21 (by kernel_rfl) rfl
          have hcR : ∀ args u, (callFunc 22 args).run Tryz.prog u = .ok (.enter 22 args) u := enters_of Tryz.func22 (by kernel_rfl) rfl
          clear hokk hgq
          refine wp_region_held (S := fun w' => Below w24.heap.size w24 w') mixedS ?_
          change wpAnyH _ _ _ _ _ _ _ _ w24.drew
          have B25 : Hid (Below w24.heap.size w24 w24.drew) := (Below.refl _ _).drew
          generalize w24.drew = w25 at B25 ⊢
          simp only [List.size_toArray, List.length_cons, List.length_nil]
          refine takeV (i := 0) (d := 104) (v := .bool true) rfl (by kernel_rfl) (by kernel_rfl) (by kernel_rfl) (fun _ _ _ h => h) rfl (fun _ _ => exMove (v := .bool true) rfl) B25.out ?_
          simp only [Act.put, List.setIfInBounds_toArray, List.set_cons_zero, List.set_cons_succ]
          refine takeV (i := 1) (d := 105) (v := .bool false) rfl (by kernel_rfl) (by kernel_rfl) (by kernel_rfl) (fun _ _ _ h => h) rfl (fun _ _ => exNot (b := true) rfl) B25.out ?_
          simp only [Act.put, List.setIfInBounds_toArray, List.set_cons_zero, List.set_cons_succ]
          refine takeV (i := 2) (d := 106) (v := .bool false) rfl (by kernel_rfl) (by kernel_rfl) (by kernel_rfl) (fun _ _ _ h => h) rfl (fun _ _ => exMove (v := .bool false) rfl) B25.out ?_
          simp only [Act.put, List.setIfInBounds_toArray, List.set_cons_zero, List.set_cons_succ]
          refine takeV (i := 3) (d := 107) (v := .bool okk) rfl (by kernel_rfl) (by kernel_rfl) (by kernel_rfl) (fun _ _ _ h => h) rfl (fun _ _ => exMove (v := .bool okk) rfl) B25.out ?_
          simp only [Act.put, List.setIfInBounds_toArray, List.set_cons_zero, List.set_cons_succ]
          refine takeV (i := 4) (d := 108) (v := .bool okk) rfl (by kernel_rfl) (by kernel_rfl) (by kernel_rfl) (fun _ _ _ h => h) rfl (fun _ _ => exMove (v := .bool okk) rfl) B25.out ?_
          simp only [Act.put, List.setIfInBounds_toArray, List.set_cons_zero, List.set_cons_succ]
          refine takeV (i := 5) (d := 109) (v := .bool false) rfl (by kernel_rfl) (by kernel_rfl) (by kernel_rfl) (fun _ _ _ h => h) rfl (fun w' _ => exBin rfl rfl (by rfl) (NBB w')) B25.out ?_
          simp only [Act.put, List.setIfInBounds_toArray, List.set_cons_zero, List.set_cons_succ]
          refine takeV (i := 6) (d := 110) (v := .bool false) rfl (by kernel_rfl) (by kernel_rfl) (by kernel_rfl) (fun _ _ _ h => h) rfl (fun _ _ => exPickF (v := .bool false) rfl rfl) B25.out ?_
          simp only [Act.put, List.setIfInBounds_toArray, List.set_cons_zero, List.set_cons_succ]
          refine takeV (i := 7) (d := 111) (v := .bool false) rfl (by kernel_rfl) (by kernel_rfl) (by kernel_rfl) (fun _ _ _ h => h) rfl (fun _ _ => exMove (v := .bool false) rfl) B25.out ?_
          simp only [Act.put, List.setIfInBounds_toArray, List.set_cons_zero, List.set_cons_succ]
          refine takeV (i := 8) (d := 112) (v := .agg (patC q.1 A1 q.2.1.length c1 A2 q.2.2.length c2).toArray) rfl (by kernel_rfl) (by kernel_rfl) (by kernel_rfl) (fun _ _ _ h => h) rfl (fun w' h => exMid rfl (rangeAt_below RQ1.out h g16l.out) underPat rfl infoPat) B25.out ?_
          simp only [Act.put, List.setIfInBounds_toArray, List.set_cons_zero, List.set_cons_succ]
          refine takeV (i := 9) (d := 113) (v := .agg (patC q.1 A3 q.2.1.length c3 A4 q.2.2.length c4).toArray) rfl (by kernel_rfl) (by kernel_rfl) (by kernel_rfl) (fun _ _ _ h => h) rfl (fun w' h => exMid rfl (rangeAt_below RQ2.out h g18l.out) underPat rfl infoPat) B25.out ?_
          simp only [Act.put, List.setIfInBounds_toArray, List.set_cons_zero, List.set_cons_succ]
          refine wpAnyH_all (rs := [10]) (by kernel_rfl) (by simp) ?_
          intro i hi
          simp only [List.mem_cons, List.not_mem_nil, or_false] at hi
          subst hi
          refine wpOp_of rfl rfl (wp_called (args := #[.agg (patC q.1 A1 q.2.1.length c1 A2 q.2.2.length c2).toArray, .agg (patC q.1 A3 q.2.1.length c3 A4 q.2.2.length c4).toArray]) hcS (by simp only [List.map_toArray, List.map_cons, List.map_nil]; rfl) (HSM.out w25 B25.out) ?_)
          rintro e w_1 ⟨rfl, h_2⟩
          refine ⟨_, rfl, ext_trans B25.out h_2, ?_⟩
          simp only [Act.put, List.setIfInBounds_toArray, List.set_cons_zero, List.set_cons_succ]
          have B_3 := Lib.hid (ext_trans B25.out h_2)
          clear B25
          clear h_2
          refine takeV (i := 11) (d := 115) (v := .bool false) rfl (by kernel_rfl) (by kernel_rfl) (by kernel_rfl) (fun _ _ _ h => h) rfl (fun _ _ => exNot (b := true) rfl) B_3.out ?_
          simp only [Act.put, List.setIfInBounds_toArray, List.set_cons_zero, List.set_cons_succ]
          refine takeV (i := 12) (d := 116) (v := .bool false) rfl (by kernel_rfl) (by kernel_rfl) (by kernel_rfl) (fun _ _ _ h => h) rfl (fun _ _ => exPickF (v := .bool false) rfl rfl) B_3.out ?_
          simp only [Act.put, List.setIfInBounds_toArray, List.set_cons_zero, List.set_cons_succ]
          refine takeV (i := 13) (d := 117) (v := .bool false) rfl (by kernel_rfl) (by kernel_rfl) (by kernel_rfl) (fun _ _ _ h => h) rfl (fun _ _ => exMove (v := .bool false) rfl) B_3.out ?_
          simp only [Act.put, List.setIfInBounds_toArray, List.set_cons_zero, List.set_cons_succ]
          refine takeV (i := 14) (d := 118) (v := .pointer (some ⟨g, 0, none⟩)) rfl (by kernel_rfl) (by kernel_rfl) (by kernel_rfl) (fun _ _ _ h => h) rfl (fun _ _ => exMove (v := .pointer (some ⟨g, 0, none⟩)) rfl) B_3.out ?_
          simp only [Act.put, List.setIfInBounds_toArray, List.set_cons_zero, List.set_cons_succ]
          refine takeV (i := 16) (d := 120) (v := .pointer (some ⟨gx, 1, none⟩)) rfl (by kernel_rfl) (by kernel_rfl) (by kernel_rfl) (fun _ _ _ h => h) rfl (fun w' _ => exField rfl (fieldRp1 gx w')) B_3.out ?_
          simp only [Act.put, List.setIfInBounds_toArray, List.set_cons_zero, List.set_cons_succ]
          refine takeV (i := 17) (d := 121) (v := .slice AY L'.length cy) rfl (by kernel_rfl) (by kernel_rfl) (by kernel_rfl) (fun _ _ _ h => h) rfl (fun w' h => exLoad rfl (loadPats gx 1 w' _ _ _ (HC1.out w' h))) B_3.out ?_
          simp only [Act.put, List.setIfInBounds_toArray, List.set_cons_zero, List.set_cons_succ]
          refine takeV (i := 18) (d := 122) (v := .int .i64 ((L'.length : Nat) : Int)) rfl (by kernel_rfl) (by kernel_rfl) (by kernel_rfl) (fun _ _ _ h => h) rfl (fun _ _ => exLen Tryz.underlying27 rfl) B_3.out ?_
          simp only [Act.put, List.setIfInBounds_toArray, List.set_cons_zero, List.set_cons_succ]
          refine wpAnyH_all (rs := [15]) (by kernel_rfl) (by simp) ?_
          intro i hi
          simp only [List.mem_cons, List.not_mem_nil, or_false] at hi
          subst hi
          refine wpOp_of rfl rfl (wp_called (args := #[.pointer (some ⟨g, 0, none⟩)]) hcN (by simp only [List.map_toArray, List.map_cons, List.map_nil]; rfl) (HLN.out w_1 B_3.out) ?_)
          rintro e w_4 ⟨rfl, h_5⟩
          refine ⟨_, rfl, ext_trans B_3.out h_5, ?_⟩
          simp only [Act.put, List.setIfInBounds_toArray, List.set_cons_zero, List.set_cons_succ]
          have B_6 := Lib.hid (ext_trans B_3.out h_5)
          clear B_3
          clear h_5
          refine takeV (i := 19) (d := 123) (v := .bool false) rfl (by kernel_rfl) (by kernel_rfl) (by kernel_rfl) (fun _ _ _ h => h) rfl (fun w' _ => exBin rfl rfl (by rfl) (NLL w')) B_6.out ?_
          simp only [Act.put, List.setIfInBounds_toArray, List.set_cons_zero, List.set_cons_succ]
          refine takeV (i := 20) (d := 124) (v := .bool false) rfl (by kernel_rfl) (by kernel_rfl) (by kernel_rfl) (fun _ _ _ h => h) rfl (fun _ _ => exPickF (v := .bool false) rfl rfl) B_6.out ?_
          simp only [Act.put, List.setIfInBounds_toArray, List.set_cons_zero, List.set_cons_succ]
          refine takeV (i := 21) (d := 125) (v := .bool false) rfl (by kernel_rfl) (by kernel_rfl) (by kernel_rfl) (fun _ _ _ h => h) rfl (fun _ _ => exMove (v := .bool false) rfl) B_6.out ?_
          simp only [Act.put, List.setIfInBounds_toArray, List.set_cons_zero, List.set_cons_succ]
          refine takeV (i := 22) (d := 126) (v := .pointer (some ⟨g, 0, none⟩)) rfl (by kernel_rfl) (by kernel_rfl) (by kernel_rfl) (fun _ _ _ h => h) rfl (fun _ _ => exMove (v := .pointer (some ⟨g, 0, none⟩)) rfl) B_6.out ?_
          simp only [Act.put, List.setIfInBounds_toArray, List.set_cons_zero, List.set_cons_succ]
          refine takeV (i := 24) (d := 128) (v := .pointer (some ⟨gx, 1, none⟩)) rfl (by kernel_rfl) (by kernel_rfl) (by kernel_rfl) (fun _ _ _ h => h) rfl (fun w' _ => exField rfl (fieldRp1 gx w')) B_6.out ?_
          simp only [Act.put, List.setIfInBounds_toArray, List.set_cons_zero, List.set_cons_succ]
          refine takeV (i := 25) (d := 129) (v := .slice AY L'.length cy) rfl (by kernel_rfl) (by kernel_rfl) (by kernel_rfl) (fun _ _ _ h => h) rfl (fun w' h => exLoad rfl (loadPats gx 1 w' _ _ _ (HC1.out w' h))) B_6.out ?_
          simp only [Act.put, List.setIfInBounds_toArray, List.set_cons_zero, List.set_cons_succ]
          refine wpAnyH_all (rs := [23]) (by kernel_rfl) (by simp) ?_
          intro i hi
          simp only [List.mem_cons, List.not_mem_nil, or_false] at hi
          subst hi
          refine wpOp_of rfl rfl (wp_called (args := #[.pointer (some ⟨g, 0, none⟩)]) hcA (by simp only [List.map_toArray, List.map_cons, List.map_nil]; rfl) (HAL.out w_4 B_6.out) ?_)
          rintro e wa ⟨s1, rfl, OA, ba⟩
          obtain ⟨A5, c5, rfl, _⟩ := OA.slice
          have PS1 := Lib.hid OA.pats.at_
          refine ⟨_, rfl, ext_trans B_6.out ba, ?_⟩
          simp only [Act.put, List.setIfInBounds_toArray, List.set_cons_zero, List.set_cons_succ]
          have B_7 := Lib.hid (ext_trans B_6.out ba)
          clear B_6
          clear OA ba
          refine wpAnyH_all (rs := [26]) (by kernel_rfl) (by simp) ?_
          intro i hi
          simp only [List.mem_cons, List.not_mem_nil, or_false] at hi
          subst hi
          refine wpOp_of rfl rfl (wp_called (args := #[.slice A5 L'.length c5, .slice AY L'.length cy]) hcP (by simp only [List.map_toArray, List.map_cons, List.map_nil]; rfl) (patches30_same L' wa _ _ _ _ _ PS1.out (HPY.out wa B_7.out) hLm.out) ?_)
          rintro e w_8 ⟨rfl, h_9⟩
          refine ⟨_, rfl, ext_trans B_7.out h_9, ?_⟩
          simp only [Act.put, List.setIfInBounds_toArray, List.set_cons_zero, List.set_cons_succ]
          have B_10 := Lib.hid (ext_trans B_7.out h_9)
          have F_11 := Lib.hid (PS1.out.ext h_9)
          clear B_7 PS1
          clear h_9
          refine takeV (i := 27) (d := 131) (v := .bool false) rfl (by kernel_rfl) (by kernel_rfl) (by kernel_rfl) (fun _ _ _ h => h) rfl (fun w' _ => exBin rfl rfl (by rfl) (by kernel_rfl)) B_10.out ?_
          simp only [Act.put, List.setIfInBounds_toArray, List.set_cons_zero, List.set_cons_succ]
          refine takeV (i := 28) (d := 132) (v := .bool false) rfl (by kernel_rfl) (by kernel_rfl) (by kernel_rfl) (fun _ _ _ h => h) rfl (fun _ _ => exPickF (v := .bool false) rfl rfl) B_10.out ?_
          simp only [Act.put, List.setIfInBounds_toArray, List.set_cons_zero, List.set_cons_succ]
          refine takeV (i := 29) (d := 133) (v := .bool false) rfl (by kernel_rfl) (by kernel_rfl) (by kernel_rfl) (fun _ _ _ h => h) rfl (fun _ _ => exMove (v := .bool false) rfl) B_10.out ?_
          simp only [Act.put, List.setIfInBounds_toArray, List.set_cons_zero, List.set_cons_succ]
          refine takeV (i := 30) (d := 134) (v := .pointer (some ⟨g, 0, none⟩)) rfl (by kernel_rfl) (by kernel_rfl) (by kernel_rfl) (fun _ _ _ h => h) rfl (fun _ _ => exMove (v := .pointer (some ⟨g, 0, none⟩)) rfl) B_10.out ?_
          simp only [Act.put, List.setIfInBounds_toArray, List.set_cons_zero, List.set_cons_succ]
          refine takeV (i := 32) (d := 136) (v := .agg (rpV rm AY L'.length cy)) rfl (by kernel_rfl) (by kernel_rfl) (by kernel_rfl) (fun _ _ _ h => h) rfl (fun w' h => exMid rfl (rangeAt_below RX.out h gxl.out) underRp rfl infoRp) B_10.out ?_
          simp only [Act.put, List.setIfInBounds_toArray, List.set_cons_zero, List.set_cons_succ]
          refine wpAnyH_all (rs := [31]) (by kernel_rfl) (by simp) ?_
          intro i hi
          simp only [List.mem_cons, List.not_mem_nil, or_false] at hi
          subst hi
          refine wpOp_of rfl rfl (wp_called (args := #[.pointer (some ⟨g, 0, none⟩)]) hcB (by simp only [List.map_toArray, List.map_cons, List.map_nil]; rfl) (HBL.out w_8 B_10.out) ?_)
          rintro e w_12 ⟨rfl, h_13⟩
          refine ⟨_, rfl, ext_trans B_10.out h_13, ?_⟩
          simp only [Act.put, List.setIfInBounds_toArray, List.set_cons_zero, List.set_cons_succ]
          have B_14 := Lib.hid (ext_trans B_10.out h_13)
          have F_15 := Lib.hid (F_11.out.ext h_13)
          clear B_10 F_11
          clear h_13
          refine wpAnyH_all (rs := [33]) (by kernel_rfl) (by simp) ?_
          intro i hi
          simp only [List.mem_cons, List.not_mem_nil, or_false] at hi
          subst hi
          refine wpOp_of rfl rfl (wp_called (args := #[.agg (rpV rm AY L'.length cy)]) hcR (by simp only [List.map_toArray, List.map_cons, List.map_nil]; rfl) (HRB.out w_12 B_14.out) ?_)
          rintro e w_16 ⟨rfl, h_17⟩
          refine ⟨_, rfl, ext_trans B_14.out h_17, ?_⟩
          simp only [Act.put, List.setIfInBounds_toArray, List.set_cons_zero, List.set_cons_succ]
          have B_18 := Lib.hid (ext_trans B_14.out h_17)
          have F_19 := Lib.hid (F_15.out.ext h_17)
          clear B_14 F_15
          clear h_17
          refine takeV (i := 34) (d := 138) (v := .bool false) rfl (by kernel_rfl) (by kernel_rfl) (by kernel_rfl) (fun _ _ _ h => h) rfl (fun w' _ => exBin rfl rfl (by rfl) (NXB w')) B_18.out ?_
          simp only [Act.put, List.setIfInBounds_toArray, List.set_cons_zero, List.set_cons_succ]
          refine takeV (i := 35) (d := 139) (v := .bool false) rfl (by kernel_rfl) (by kernel_rfl) (by kernel_rfl) (fun _ _ _ h => h) rfl (fun _ _ => exPickF (v := .bool false) rfl rfl) B_18.out ?_
          simp only [Act.put, List.setIfInBounds_toArray, List.set_cons_zero, List.set_cons_succ]
          refine wpAnyH_done (by kernel_rfl) ?_ _
          have BZ := Lib.hid (B24.out.trans (B_18.out.mono B24.out.size))
          have DZ := Lib.hid (DX.out.ext B_18.out)
          go_wp2_with fail
          go_roundw
          case rel => exact ⟨k + 1, L', by omega, by go_num, DZ.out, ok'.out, BZ.out⟩
          case measure => simp [intOf]; omega
      · have hlk : ¬ ((k : Int) < (n : Int)) := by omega
        obtain ⟨AY, cy, F, G, D⟩ := DU.out
        have HP := Lib.hid D.1
        have KX := Lib.hid D.2.1
        have HO := Lib.hid (fun z : Ext wr => roomPl_any (HP.out.ext z.h))
        have HW := Lib.hid works32
        have q0 : ∀ z : Ext wr, z.w.cell? ⟨gx, 0, none⟩ = some (.int .i64 rm) := fun z => (KX.out.ext z.h).cell 0
        clear D DU
        go_upto_region 26 with fail
        refine wp_region_ext mixedS (by kernel_rfl) ?_
        repeat (first
          | go_big_quiet_skip
          | go_big_quiet_step ((first
            | (go_at_call 23; exact ext_call (HO.out _))
            | (go_at_call 6; exact ext_call (HW.out _)))))
        refine wpQuiet_nil ?_
        rintro _ ⟨z, rfl⟩
        have BZ := Lib.hid (B.out.trans (z.h.mono B.out.size))
        generalize z.w = w9 at *
        clear q0
        go_wp2
        go_ret
        exact ⟨rfl, BZ.out⟩
end Go.Proofs.YtnhbbggpgieipaaGreat
