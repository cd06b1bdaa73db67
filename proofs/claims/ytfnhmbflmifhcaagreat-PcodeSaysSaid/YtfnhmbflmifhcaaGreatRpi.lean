/- Any patch is encoded, and any bytes are decoded, as the document says: walked. -/
import Derived.Test.YtfnhmbflmifhcaaGreatRph
import Derived.Test.YtfnhmbflmifhcaaGreatPcds
import Derived.Test.YtfnhmbflmifhcaaGreatKinds
import Derived.Test.YtfnhmbflmifhcaaGreatPatr
namespace Go.Proofs.YtfnhmbflmifhcaaGreat
open Go.RowKit

theorem wp_convB {P : Program} {Q : Exit → Act → World → Prop} {K : Act → World → Prop} {a : Act} {w : World} {d : Option Tmp} {ty s t : TypeId} {pos : String} {after : Array Edge} {gd : Option (Nat × Bool)} {x : Operand} {xv v : Value} (hx : a.eval x = xv) (hr : (convert s t xv).run P w = .ok v w) (h : K (a.put d v) w) : Oper.wp P ⟨d, .convert s t x, ty, pos, after, gd⟩ a w K Q := by
  unfold Oper.wp execOp
  simp only [hx, Sem.run_bind, hr, Result.andThen_ok, Sem.run_pure]
  exact h
theorem blk_rng {w : World} {g : Nat} {t : TypeId} {cs : List Value} (h : Blk w g t cs.toArray) : w.rangeAt g 0 cs := by
  intro j u hj
  rw [Nat.zero_add, h.cell j]
  simpa using hj
theorem neI (w : World) : (binOp .neq 38 (.int .i64 0) (.int .i64 0)).run Tryz.prog w = .ok (.bool false) w := by kernel_rfl
theorem neS {s : ByteArray} (w : World) : (binOp .neq 9 (.string s) (.string s)).run Tryz.prog w = .ok (.bool false) w := by simp [go_sem]
set_option maxRecDepth 100000 in
set_option maxHeartbeats 8000000 in
theorem pcodeSays_walk (w : World) (p : PatV) (cs : List Value) (hp : PatAt w cs p) (bs : List UInt8) (A : Option Addr) (n c : Nat) (ha : BytesAt w A n c bs) :
    Calls Tryz.prog 7 #[.agg cs.toArray, .slice A n c] w (RetB w (.bool true)) := by
  have hp0 := hp
  obtain ⟨⟨Ap, cp, Ap', cp', rfl, _, _⟩, _, _⟩ := hp0
  have K0 : Hid (Blk (w.alloc (.cells (patC p.1 Ap p.2.1.length cp Ap' p.2.2.length cp').toArray 37)) w.heap.size 37 (patC p.1 Ap p.2.1.length cp Ap' p.2.2.length cp').toArray) := Blk.new _ _ _
  have B0 : Hid (Below w.heap.size w (w.alloc (.cells (patC p.1 Ap p.2.1.length cp Ap' p.2.2.length cp').toArray 37))) := below_new _ _
  have P0 := Lib.hid (hp.ext B0.out)
  have H0 := Lib.hid (ha.ext B0.out)
  clear hp ha
  go_enter Tryz.func7, Tryz.ntmps7
  go_upto_region 1 with fail
  generalize (w.alloc (.cells (patC p.1 Ap p.2.1.length cp Ap' p.2.2.length cp').toArray 37)) = w2 at *
  have HF := Lib.hid (few18_any p w2 _ P0.out)
  by_cases hf : fewP p = true
  · rw [fewN_true hf] at HF
    replace hf := Lib.hid hf
    by_cases hn : n ≤ 3000
    · have hni : ¬ (3000 < (n : Int)) := by omega
      go_wp2_with (refine wpList_load_row rfl 37 _ (by rfl) w.heap.size (by rfl) _ _ _ _ K0.out underPat rfl infoPat ?_)
      refine HF.out.mono ?_
      rintro e w3 ⟨rfl, b3⟩
      have K3 := Lib.hid (K0.out.ext b3)
      have P3 := Lib.hid (P0.out.ext b3)
      have H3 := Lib.hid (H0.out.ext b3)
      have B3 := Lib.hid (B0.out.trans (b3.mono B0.out.size))
      clear b3 K0 P0 H0 B0 HF
      go_wp2_with (refine wpList_load_row rfl 37 _ (by rfl) w.heap.size (by rfl) _ _ _ _ K3.out underPat rfl infoPat ?_)
      refine (encode19_any p w3 _ P3.out).mono ?_
      rintro e w4 ⟨h4, h4'⟩
      cases hpb : patB p
      · obtain ⟨rfl, b4⟩ := h4' hpb
        have K4 := Lib.hid (K3.out.ext b4)
        have P4 := Lib.hid (P3.out.ext b4)
        have H4 := Lib.hid (H3.out.ext b4)
        have B4 := Lib.hid (B3.out.trans (b4.mono B3.out.size))
        have HG := Lib.hid (rgood18_any p w4 _ P4.out)
        rw [hpb] at HG
        clear b4 K3 P3 H3 B3 h4 h4' hpb P4
        go_wp2_with (refine wpList_load_row rfl 37 _ (by rfl) w.heap.size (by rfl) _ _ _ _ K4.out underPat rfl infoPat ?_)
        refine HG.out.mono ?_
        rintro e w5 ⟨rfl, b5⟩
        have H5 := Lib.hid (H4.out.ext b5)
        have B5 := Lib.hid (B4.out.trans (b5.mono B4.out.size))
        clear b5 K4 H4 B4 HG
        obtain ⟨q, m, hm⟩ : ∃ q m, decP bs = (q, m) := ⟨_, _, rfl⟩
        have HD := Lib.hid (decode19_any bs w5 A n c H5.out)
        rw [hm] at HD
        go_wp2_with fail
        refine HD.out.mono ?_
        rintro e wd ⟨ds, rfl, pa, bb⟩
        clear HD
        have pa2 := pa
        obtain ⟨⟨A3, c3, A4, c4, rfl, _, _⟩, _, _⟩ := pa2
        have KZ : Hid (Blk (wd.alloc (.cells #[.int .u8 0, .int .u16 0, .slice none 0 0, .slice none 0 0] 37)) wd.heap.size 37 #[.int .u8 0, .int .u16 0, .slice none 0 0, .slice none 0 0]) := Blk.new _ _ _
        have KQ : Hid (Blk ((wd.alloc (.cells #[.int .u8 0, .int .u16 0, .slice none 0 0, .slice none 0 0] 37)).setRow wd.heap.size (patC q.1 A3 q.2.1.length c3 A4 q.2.2.length c4).toArray) wd.heap.size 37 (patC q.1 A3 q.2.1.length c3 A4 q.2.2.length c4).toArray) := KZ.out.row _
        have BN : Hid (Below wd.heap.size wd ((wd.alloc (.cells #[.int .u8 0, .int .u16 0, .slice none 0 0, .slice none 0 0] 37)).setRow wd.heap.size (patC q.1 A3 q.2.1.length c3 A4 q.2.2.length c4).toArray)) := below_setRow (below_new wd _) (Nat.le_refl _) _
        have QI := Lib.hid pa
        have BEi := Lib.hid (B5.out.trans (bb.mono B5.out.size))
        have HEei := Lib.hid (H5.out.ext bb)
        clear pa bb B5 H5
        go_upto_region 10 with (first
          | (refine wpList_alloced (allocPat _) ?_)
          | (refine wpList_store_row rfl 37 _ _ (by rfl) wd.heap.size (patC q.1 A3 q.2.1.length c3 A4 q.2.2.length c4).toArray (by rfl) (by rfl) _ _ KZ.out infoPat rfl patC_one ?_))
        generalize ((wd.alloc (.cells #[.int .u8 0, .int .u16 0, .slice none 0 0, .slice none 0 0] 37)).setRow wd.heap.size (patC q.1 A3 q.2.1.length c3 A4 q.2.2.length c4).toArray) = we at *
        have BE := Lib.hid (BEi.out.trans (BN.out.mono BEi.out.size))
        have HEe := Lib.hid (HEei.out.ext BN.out)
        have QQ := Lib.hid (QI.out.ext BN.out)
        clear KZ BN QI BEi HEei
        generalize wd.heap.size = gx at *
        have HE := Lib.hid (rdecode19_any bs we A n c HEe.out)
        rw [hm] at HE
        replace hm := Lib.hid hm
        go_wp2_with fail
        refine HE.out.mono ?_
        rintro e wf ⟨es, rfl, pa, bb⟩
        clear HE
        have KX := Lib.hid (KQ.out.ext bb)
        have QX := Lib.hid (QQ.out.ext bb)
        clear KQ QQ
        have pa2 := pa
        obtain ⟨⟨A3, c3, A4, c4, rfl, _, _⟩, _, _⟩ := pa2
        have KZ : Hid (Blk (wf.alloc (.cells #[.int .u8 0, .int .u16 0, .slice none 0 0, .slice none 0 0] 37)) wf.heap.size 37 #[.int .u8 0, .int .u16 0, .slice none 0 0, .slice none 0 0]) := Blk.new _ _ _
        have KQ : Hid (Blk ((wf.alloc (.cells #[.int .u8 0, .int .u16 0, .slice none 0 0, .slice none 0 0] 37)).setRow wf.heap.size (patC q.1 A3 q.2.1.length c3 A4 q.2.2.length c4).toArray) wf.heap.size 37 (patC q.1 A3 q.2.1.length c3 A4 q.2.2.length c4).toArray) := KZ.out.row _
        have BN : Hid (Below wf.heap.size wf ((wf.alloc (.cells #[.int .u8 0, .int .u16 0, .slice none 0 0, .slice none 0 0] 37)).setRow wf.heap.size (patC q.1 A3 q.2.1.length c3 A4 q.2.2.length c4).toArray)) := below_setRow (below_new wf _) (Nat.le_refl _) _
        have QI := Lib.hid pa
        have BGi := Lib.hid (BE.out.trans (bb.mono BE.out.size))
        clear pa bb BE
        go_upto_region 11 with (first
          | (refine wpList_alloced (allocPat _) ?_)
          | (refine wpList_store_row rfl 37 _ _ (by rfl) wf.heap.size (patC q.1 A3 q.2.1.length c3 A4 q.2.2.length c4).toArray (by rfl) (by rfl) _ _ KZ.out infoPat rfl patC_one ?_))
        generalize ((wf.alloc (.cells #[.int .u8 0, .int .u16 0, .slice none 0 0, .slice none 0 0] 37)).setRow wf.heap.size (patC q.1 A3 q.2.1.length c3 A4 q.2.2.length c4).toArray) = wg at *
        have BG := Lib.hid (BGi.out.trans (BN.out.mono BGi.out.size))
        have QQ := Lib.hid (QI.out.ext BN.out)
        have BN2 := BN
        clear KZ BN QI BGi HEe
        have KX := Lib.hid (KX.out.ext BN2.out)
        have QX := Lib.hid (QX.out.ext BN2.out)
        generalize wf.heap.size = gy at *
        have HS := Lib.hid (rpsame q q wg _ _ QX.out QQ.out)
        rw [decide_eq_true rfl] at HS
        clear QX QQ BN2
        go_wp2_with (first
          | (refine wpList_load_row rfl 37 _ (by rfl) gx (by rfl) _ _ _ _ KX.out underPat rfl infoPat ?_)
          | (refine wpList_load_row rfl 37 _ (by rfl) gy (by rfl) _ _ _ _ KQ.out underPat rfl infoPat ?_))
        refine HS.out.mono ?_
        rintro e wh ⟨rfl, bh⟩
        have BH := Lib.hid (BG.out.trans (bh.mono BG.out.size))
        clear bh HS KX KQ BG
        go_wp2_with fail
        refine (works19 wh).mono ?_
        rintro e wz ⟨rfl, bz⟩
        have BZ := Lib.hid (BH.out.trans (bz.mono BH.out.size))
        go_wp2
        go_ret
        exact ⟨rfl, BZ.out⟩
      · obtain ⟨v, rfl, own, b4⟩ := h4 hpb
        obtain ⟨n4, hn4⟩ : ∃ n4, n4 = (patBytes p).length := ⟨_, rfl⟩
        rw [← hn4] at own
        obtain ⟨A5, c5, rfl, ba⟩ := own_bytes own hn4.symm
        have K4 := Lib.hid (K3.out.ext b4)
        have P4 := Lib.hid (P3.out.ext b4)
        have H4 := Lib.hid (H3.out.ext b4)
        have B4 := Lib.hid (B3.out.trans (b4.mono B3.out.size))
        have HG := Lib.hid (rgood18_any p w4 _ P4.out)
        rw [hpb] at HG
        replace hn4 := Lib.hid hn4
        replace hpb := Lib.hid hpb
        have BA4 := Lib.hid ba
        clear b4 K3 P3 H3 B3 own ba h4 h4'
        go_wp2_with (refine wpList_load_row rfl 37 _ (by rfl) w.heap.size (by rfl) _ _ _ _ K4.out underPat rfl infoPat ?_)
        refine HG.out.mono ?_
        rintro e w5 ⟨rfl, b5⟩
        have K5 := Lib.hid (K4.out.ext b5)
        have P5 := Lib.hid (P4.out.ext b5)
        have H5 := Lib.hid (H4.out.ext b5)
        have BA := Lib.hid (BA4.out.ext b5)
        have B5 := Lib.hid (B4.out.trans (b5.mono B4.out.size))
        clear b5 K4 P4 H4 B4 HG BA4
        obtain ⟨gp, hgp⟩ : ∃ gp, gp = w.heap.size := ⟨_, rfl⟩
        rw [← hgp] at K5 ⊢
        replace hgp := Lib.hid hgp
        go_upto_region 7 with fail
        have hcB : ∀ args u, (callFunc 39 args).run Tryz.prog u = .ok (.enter 39 args) u := enters_of Tryz.func39 (by kernel_rfl) rfl
        refine wp_region_held (S := fun w' => Below w5.heap.size w5 w') mixedS ?_
        change wpAnyH _ _ _ _ _ _ _ _ w5.drew
        have B6 : Hid (Below w5.heap.size w5 w5.drew) := (Below.refl _ _).drew
        generalize w5.drew = w6 at B6 ⊢
        simp only [List.size_toArray, List.length_cons, List.length_nil]
        refine takeV (i := 0) (d := 35) (v := .int .i64 0) rfl (by kernel_rfl) (by kernel_rfl) (by kernel_rfl) (fun _ _ _ h => h) rfl (fun _ _ => exMove (v := .int .i64 0) rfl) B6.out ?_
        simp only [Act.put, List.setIfInBounds_toArray, List.set_cons_zero, List.set_cons_succ]
        refine takeV (i := 1) (d := 36) (v := .bool false) rfl (by kernel_rfl) (by kernel_rfl) (by kernel_rfl) (fun _ _ _ h => h) rfl (fun w' _ => exBin rfl rfl (by rfl) (neI w')) B6.out ?_
        simp only [Act.put, List.setIfInBounds_toArray, List.set_cons_zero, List.set_cons_succ]
        refine takeV (i := 2) (d := 37) (v := .bool false) rfl (by kernel_rfl) (by kernel_rfl) (by kernel_rfl) (fun _ _ _ h => h) rfl (fun _ _ => exMove (v := .bool false) rfl) B6.out ?_
        simp only [Act.put, List.setIfInBounds_toArray, List.set_cons_zero, List.set_cons_succ]
        refine takeV (i := 3) (d := 38) (v := .slice A5 n4 c5) rfl (by kernel_rfl) (by kernel_rfl) (by kernel_rfl) (fun _ _ _ h => h) rfl (fun _ _ => exMove (v := .slice A5 n4 c5) rfl) B6.out ?_
        simp only [Act.put, List.setIfInBounds_toArray, List.set_cons_zero, List.set_cons_succ]
        refine takeV (i := 4) (d := 39) (v := .string (bytesOf (patBytes p))) rfl (by kernel_rfl) (by kernel_rfl) (by kernel_rfl) (fun _ _ _ h => h) rfl (fun w' h => exConvB rfl (strB_run (BA.out.ext h).sl hn4.out.symm)) B6.out ?_
        simp only [Act.put, List.setIfInBounds_toArray, List.set_cons_zero, List.set_cons_succ]
        refine takeV (i := 5) (d := 40) (v := .agg (patC p.1 Ap p.2.1.length cp Ap' p.2.2.length cp').toArray) rfl (by kernel_rfl) (by kernel_rfl) (by kernel_rfl) (fun _ _ _ h => h) rfl (fun w' h => exMid rfl (blk_rng (K5.out.ext h)) underPat rfl infoPat) B6.out ?_
        simp only [Act.put, List.setIfInBounds_toArray, List.set_cons_zero, List.set_cons_succ]
        refine wpAnyH_all (rs := [6]) (by kernel_rfl) (by simp) ?_
        intro i hi
        simp only [List.mem_cons, List.not_mem_nil, or_false] at hi
        subst hi
        refine wpOp_of rfl rfl (wp_called (args := #[.agg (patC p.1 Ap p.2.1.length cp Ap' p.2.2.length cp').toArray]) hcB (by simp only [List.map_toArray, List.map_cons, List.map_nil]; rfl) (rbytes19_any p hpb.out w6 _ (P5.out.ext B6.out)) ?_)
        rintro e w9 ⟨v9, rfl, o9, b9⟩
        obtain ⟨A9, c9, rfl, ba9⟩ := own_bytes o9 rfl
        refine ⟨_, rfl, ext_trans B6.out b9, ?_⟩
        simp only [Act.put, List.setIfInBounds_toArray, List.set_cons_zero, List.set_cons_succ]
        have BA9 := Lib.hid ba9
        have B9 := Lib.hid (ext_trans B6.out b9)
        clear o9 b9 ba9 B6
        refine wpAnyH_all (rs := [7]) (by kernel_rfl) (by simp) ?_
        intro i hi
        simp only [List.mem_cons, List.not_mem_nil, or_false] at hi
        subst hi
        refine wpOp_of rfl rfl (wp_convB rfl (strB_run BA9.out.sl rfl) ?_)
        refine ⟨B9.out, ?_⟩
        simp only [Act.put, List.setIfInBounds_toArray, List.set_cons_zero, List.set_cons_succ]
        refine takeV (i := 8) (d := 43) (v := .bool false) rfl (by kernel_rfl) (by kernel_rfl) (by kernel_rfl) (fun _ _ _ h => h) rfl (fun w' _ => exBin rfl rfl (by rfl) (neS w')) B9.out ?_
        simp only [Act.put, List.setIfInBounds_toArray, List.set_cons_zero, List.set_cons_succ]
        refine takeV (i := 9) (d := 44) (v := .bool false) rfl (by kernel_rfl) (by kernel_rfl) (by kernel_rfl) (fun _ _ _ h => h) rfl (fun _ _ => exPickF (v := .bool false) rfl rfl) B9.out ?_
        simp only [Act.put, List.setIfInBounds_toArray, List.set_cons_zero, List.set_cons_succ]
        refine wpAnyH_done (by kernel_rfl) ?_ _
        have BF := Lib.hid (B5.out.trans (B9.out.mono B5.out.size))
        have HF := Lib.hid (H5.out.ext B9.out)
        clear K5 P5 H5 BA B5 BA9 B9 hcB
        obtain ⟨q, m, hm⟩ : ∃ q m, decP bs = (q, m) := ⟨_, _, rfl⟩
        have HD := Lib.hid (decode19_any bs w9 A n c HF.out)
        rw [hm] at HD
        go_wp2_with fail
        refine HD.out.mono ?_
        rintro e wd ⟨ds, rfl, pa, bb⟩
        clear HD
        have pa2 := pa
        obtain ⟨⟨A3, c3, A4, c4, rfl, _, _⟩, _, _⟩ := pa2
        have KZ : Hid (Blk (wd.alloc (.cells #[.int .u8 0, .int .u16 0, .slice none 0 0, .slice none 0 0] 37)) wd.heap.size 37 #[.int .u8 0, .int .u16 0, .slice none 0 0, .slice none 0 0]) := Blk.new _ _ _
        have KQ : Hid (Blk ((wd.alloc (.cells #[.int .u8 0, .int .u16 0, .slice none 0 0, .slice none 0 0] 37)).setRow wd.heap.size (patC q.1 A3 q.2.1.length c3 A4 q.2.2.length c4).toArray) wd.heap.size 37 (patC q.1 A3 q.2.1.length c3 A4 q.2.2.length c4).toArray) := KZ.out.row _
        have BN : Hid (Below wd.heap.size wd ((wd.alloc (.cells #[.int .u8 0, .int .u16 0, .slice none 0 0, .slice none 0 0] 37)).setRow wd.heap.size (patC q.1 A3 q.2.1.length c3 A4 q.2.2.length c4).toArray)) := below_setRow (below_new wd _) (Nat.le_refl _) _
        have QI := Lib.hid pa
        have BEi := Lib.hid (BF.out.trans (bb.mono BF.out.size))
        have HEei := Lib.hid (HF.out.ext bb)
        clear pa bb BF HF
        go_upto_region 10 with (first
          | (refine wpList_alloced (allocPat _) ?_)
          | (refine wpList_store_row rfl 37 _ _ (by rfl) wd.heap.size (patC q.1 A3 q.2.1.length c3 A4 q.2.2.length c4).toArray (by rfl) (by rfl) _ _ KZ.out infoPat rfl patC_one ?_))
        generalize ((wd.alloc (.cells #[.int .u8 0, .int .u16 0, .slice none 0 0, .slice none 0 0] 37)).setRow wd.heap.size (patC q.1 A3 q.2.1.length c3 A4 q.2.2.length c4).toArray) = we at *
        have BE := Lib.hid (BEi.out.trans (BN.out.mono BEi.out.size))
        have HEe := Lib.hid (HEei.out.ext BN.out)
        have QQ := Lib.hid (QI.out.ext BN.out)
        clear KZ BN QI BEi HEei
        generalize wd.heap.size = gx at *
        have HE := Lib.hid (rdecode19_any bs we A n c HEe.out)
        rw [hm] at HE
        replace hm := Lib.hid hm
        go_wp2_with fail
        refine HE.out.mono ?_
        rintro e wf ⟨es, rfl, pa, bb⟩
        clear HE
        have KX := Lib.hid (KQ.out.ext bb)
        have QX := Lib.hid (QQ.out.ext bb)
        clear KQ QQ
        have pa2 := pa
        obtain ⟨⟨A3, c3, A4, c4, rfl, _, _⟩, _, _⟩ := pa2
        have KZ : Hid (Blk (wf.alloc (.cells #[.int .u8 0, .int .u16 0, .slice none 0 0, .slice none 0 0] 37)) wf.heap.size 37 #[.int .u8 0, .int .u16 0, .slice none 0 0, .slice none 0 0]) := Blk.new _ _ _
        have KQ : Hid (Blk ((wf.alloc (.cells #[.int .u8 0, .int .u16 0, .slice none 0 0, .slice none 0 0] 37)).setRow wf.heap.size (patC q.1 A3 q.2.1.length c3 A4 q.2.2.length c4).toArray) wf.heap.size 37 (patC q.1 A3 q.2.1.length c3 A4 q.2.2.length c4).toArray) := KZ.out.row _
        have BN : Hid (Below wf.heap.size wf ((wf.alloc (.cells #[.int .u8 0, .int .u16 0, .slice none 0 0, .slice none 0 0] 37)).setRow wf.heap.size (patC q.1 A3 q.2.1.length c3 A4 q.2.2.length c4).toArray)) := below_setRow (below_new wf _) (Nat.le_refl _) _
        have QI := Lib.hid pa
        have BGi := Lib.hid (BE.out.trans (bb.mono BE.out.size))
        clear pa bb BE
        go_upto_region 11 with (first
          | (refine wpList_alloced (allocPat _) ?_)
          | (refine wpList_store_row rfl 37 _ _ (by rfl) wf.heap.size (patC q.1 A3 q.2.1.length c3 A4 q.2.2.length c4).toArray (by rfl) (by rfl) _ _ KZ.out infoPat rfl patC_one ?_))
        generalize ((wf.alloc (.cells #[.int .u8 0, .int .u16 0, .slice none 0 0, .slice none 0 0] 37)).setRow wf.heap.size (patC q.1 A3 q.2.1.length c3 A4 q.2.2.length c4).toArray) = wg at *
        have BG := Lib.hid (BGi.out.trans (BN.out.mono BGi.out.size))
        have QQ := Lib.hid (QI.out.ext BN.out)
        have BN2 := BN
        clear KZ BN QI BGi HEe
        have KX := Lib.hid (KX.out.ext BN2.out)
        have QX := Lib.hid (QX.out.ext BN2.out)
        generalize wf.heap.size = gy at *
        have HS := Lib.hid (rpsame q q wg _ _ QX.out QQ.out)
        rw [decide_eq_true rfl] at HS
        clear QX QQ BN2
        go_wp2_with (first
          | (refine wpList_load_row rfl 37 _ (by rfl) gx (by rfl) _ _ _ _ KX.out underPat rfl infoPat ?_)
          | (refine wpList_load_row rfl 37 _ (by rfl) gy (by rfl) _ _ _ _ KQ.out underPat rfl infoPat ?_))
        refine HS.out.mono ?_
        rintro e wh ⟨rfl, bh⟩
        have BH := Lib.hid (BG.out.trans (bh.mono BG.out.size))
        clear bh HS KX KQ BG
        go_wp2_with fail
        refine (works19 wh).mono ?_
        rintro e wz ⟨rfl, bz⟩
        have BZ := Lib.hid (BH.out.trans (bz.mono BH.out.size))
        go_wp2
        go_ret
        exact ⟨rfl, BZ.out⟩
    · have hni : 3000 < (n : Int) := by omega
      go_wp2_with (refine wpList_load_row rfl 37 _ (by rfl) w.heap.size (by rfl) _ _ _ _ K0.out underPat rfl infoPat ?_)
      refine HF.out.mono ?_
      rintro e w3 ⟨rfl, b3⟩
      have B3 := Lib.hid (B0.out.trans (b3.mono B0.out.size))
      go_wp2_with fail
      refine (works19 w3).mono ?_
      rintro e wz ⟨rfl, bz⟩
      go_wp2
      go_ret
      exact ⟨rfl, B3.out.trans (bz.mono B3.out.size)⟩
  · rw [fewN_false (by simpa using hf)] at HF
    go_wp2_with (refine wpList_load_row rfl 37 _ (by rfl) w.heap.size (by rfl) _ _ _ _ K0.out underPat rfl infoPat ?_)
    refine HF.out.mono ?_
    rintro e w3 ⟨rfl, b3⟩
    have B3 := Lib.hid (B0.out.trans (b3.mono B0.out.size))
    go_wp2_with fail
    refine (works19 w3).mono ?_
    rintro e wz ⟨rfl, bz⟩
    go_wp2
    go_ret
    exact ⟨rfl, B3.out.trans (bz.mono B3.out.size)⟩
end Go.Proofs.YtfnhmbflmifhcaaGreat
