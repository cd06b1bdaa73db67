/- Of any graph any vertex, all of a kind of any file, and its steps, are as the document says: the statement walked. -/
import Derived.Test.YtfnhmbflmifhcaaGreatRgw
import Derived.Test.YtfnhmbflmifhcaaGreatGrp
import Derived.Test.YtfnhmbflmifhcaaGreatFlatq
namespace Go.Proofs.YtfnhmbflmifhcaaGreat
open Go.RowKit

theorem u8_bdA {z : Int} (h : (Lit.int .u8 z).wf = true) : 0 ≤ z ∧ z < 256 := by simp [Lit.wf, IntKind.min, IntKind.max, IntKind.signed, IntKind.bits] at h; omega
theorem u16_bdA {z : Int} (h : (Lit.int .u16 z).wf = true) : 0 ≤ z ∧ z < 65536 := by simp [Lit.wf, IntKind.min, IntKind.max, IntKind.signed, IntKind.bits] at h; omega
theorem vid_flatA : ∀ {cs : List Value}, FlatOk [.int .u8, .int .u16, .int .u8] cs → ∃ v : VidV, cs = encV v
  | [_, _, _], ⟨⟨a, rfl, ha⟩, ⟨s, rfl, hs⟩, ⟨n, rfl, hn⟩, _⟩ => by
    have h1 := u8_bdA ha
    have h2 := u16_bdA hs
    have h3 := u8_bdA hn
    refine ⟨((⟨a.toNat, by omega⟩, ⟨s.toNat, by omega⟩), ⟨n.toNat, by omega⟩), ?_⟩
    show _ = [Value.int .u8 ((a.toNat : Nat) : Int), .int .u16 ((s.toNat : Nat) : Int), .int .u8 ((n.toNat : Nat) : Int)]
    rw [Int.toNat_of_nonneg h1.1, Int.toNat_of_nonneg h2.1, Int.toNat_of_nonneg h3.1]
set_option maxRecDepth 100000 in
set_option maxHeartbeats 16000000 in
theorem graphAsks_walk (w : World) (l : List PatV) (A : Option Addr) (n c : Nat) (hm : n ≤ maxLen) (h : PatsAt w A n l) (v : VidV) (kd : Int) (hkd : (Lit.int .u8 kd).wf = true) :
    Calls Tryz.prog 4 #[.slice A n c, .agg (encV v).toArray, .int .u8 kd] w (RetB w (.bool true)) := by
  obtain ⟨kn, rfl⟩ : ∃ kn : Nat, kd = (kn : Int) := ⟨kd.toNat, by have := u8_bdA hkd; omega⟩
  have KV0 : Hid (Blk (w.alloc (.cells (encV v).toArray 43)) w.heap.size 43 (encV v).toArray) := Blk.new _ _ _
  have B0 : Hid (Below w.heap.size w (w.alloc (.cells (encV v).toArray 43))) := below_new _ _
  have H0 := Lib.hid (h.ext B0.out)
  clear h hkd
  go_enter Tryz.func4, Tryz.ntmps4
  go_upto_region 1 with fail
  generalize (w.alloc (.cells (encV v).toArray 43)) = w2 at *
  have hgv2 : Hid (w.heap.size < w2.heap.size) := KV0.out.lt
  obtain ⟨gv, hgv⟩ : ∃ g, g = w.heap.size := ⟨_, rfl⟩
  rw [← hgv] at KV0 ⊢
  replace hgv := Lib.hid hgv
  have HF := Lib.hid (few20_any l w2 A n c 12 H0.out hm)
  cases hf : fewsB l 12
  · rw [fewsN_false hf] at HF
    go_wp2_with fail
    refine HF.out.mono ?_
    rintro e w3 ⟨rfl, b3⟩
    have B3 := Lib.hid (B0.out.trans (b3.mono B0.out.size))
    clear b3 HF
    go_wp2_with fail
    refine (works20 _).mono ?_
    rintro e w4 ⟨rfl, b4⟩
    have B4 := Lib.hid (B3.out.trans (b4.mono B3.out.size))
    clear b4
    go_wp2
    go_ret
    exact ⟨rfl, B4.out⟩
  · rw [fewsN_true hf] at HF
    have hn12 : n ≤ 12 := by have h1 := fews12 hf; have h2 := H0.out.len; omega
    have hln := Lib.hid H0.out.len
    go_wp2_with fail
    refine HF.out.mono ?_
    rintro e w3 ⟨rfl, b3⟩
    have KV3 := Lib.hid (KV0.out.ext b3)
    have B3 := Lib.hid (B0.out.trans (b3.mono B0.out.size))
    have H3 := Lib.hid (H0.out.ext b3)
    have HB := Lib.hid (build20_any w3 l A n c hm H3.out)
    clear b3 HF hf hm KV0 B0 H0
    go_wp2_with fail
    refine HB.out.mono ?_
    rintro e w4 ⟨F, g, rfl, hG, hFw, b4⟩
    have HG := Lib.hid hG
    have KV4 := Lib.hid (KV3.out.ext b4)
    have H4 := Lib.hid (H3.out.ext b4)
    have B4 := Lib.hid (B3.out.trans (b4.mono B3.out.size))
    clear hG b4 B3 hFw HB KV3 H3
    have KX0 : Hid (Blk ((w4.alloc (.cells #[.slice none 0 0] 28)).setRow w4.heap.size #[.slice none 0 0]) w4.heap.size 28 #[.slice none 0 0]) := (Blk.new _ _ _).row _
    have BN : Hid (Below w4.heap.size w4 ((w4.alloc (.cells #[.slice none 0 0] 28)).setRow w4.heap.size #[.slice none 0 0])) := below_setRow (below_new w4 _) (Nat.le_refl _) _
    go_upto_region 4 with (first
      | (refine wpList_built (buildG0 _) (by rfl) ?_)
      | (refine wpList_alloced (allocG20 _) ?_)
      | (refine wpList_store_row rfl 28 _ _ (by rfl) w4.heap.size #[.slice none 0 0] (by rfl) (by rfl) _ _ (Blk.new _ _ _) infoG20 rfl (by simp [Value.oneCell']) ?_))
    have hgF : Hid (¬ F w4.heap.size) := fun e => Nat.lt_irrefl _ (HG.out.mem.lt _ e)
    have hgw : Hid (w.heap.size ≤ w4.heap.size) := B4.out.size
    have hgvx : Hid (gv < w4.heap.size) := KV4.out.lt
    have HG := Lib.hid (HG.out.ext BN.out)
    have KV5 := Lib.hid (KV4.out.ext BN.out)
    have H5 := Lib.hid ((H4.out.ext BN.out))
    have hAx : Hid (∀ (k : Nat) r p, l[k]? = some p → PatAt w4 r p → PatIn w4 (fun q => q < w4.heap.size) r p) := fun k r p _ e => e.in_
    have B4 := Lib.hid (B4.out.trans (BN.out.mono B4.out.size))
    generalize hw5 : ((w4.alloc (.cells #[.slice none 0 0] 28)).setRow w4.heap.size #[.slice none 0 0]) = w5 at *
    have hx4 : Hid (w4.heap.size < w5.heap.size) := KX0.out.lt
    obtain ⟨gx, hgx⟩ : ∃ g, g = w4.heap.size := ⟨_, rfl⟩
    rw [← hgx] at KX0 hgF hgw hgvx hx4 ⊢
    have BNx : Hid (Below gx w4 w5) := by rw [Hid, hgx]; exact BN.out
    clear BN hw5 KV4
    replace hgx := Lib.hid hgx
    have hcA : ∀ args u, (callFunc 14 args).run Tryz.prog u = .ok (.enter 14 args) u := enters_of Tryz.func14 (by kernel_rfl) rfl
    go_wp2_with fail
    go_loopw [9] (fun i wr => ∃ (k : Nat) (Ax : Option Addr) (cx : Nat) (L : List PatV), k ≤ n ∧ i = .int .i64 k ∧ Hid (L = runG [] (l.take k)) ∧ Hid (Kept (fun q => q = gx) w5 wr) ∧ Hid (Blk wr gx 28 #[.slice Ax L.length cx]) ∧ Hid (PatsIn wr (fun q => q ≠ gx) Ax L.length L) ∧ Hid (Below w.heap.size w wr)) (fun i _ => n - (intOf i).toNat)
    case atStart => exact ⟨0, none, 0, [], by omega, rfl, rfl, Kept.refl _ _, KX0.out, pats_nil _ _, B4.out⟩
    case round =>
      clear KX0 B4
      obtain ⟨k, Ax, cx, L, hk, rfl, hL, KW, KX, PX, B⟩ := hrel
      obtain ⟨wi, rfl⟩ : ∃ wx, wx = wr := ⟨_, rfl⟩
      have hk0 : (0 : Int) ≤ (k : Int) := by omega
      have hLn : Hid (L.length ≤ 12) := by have := runG_take_len l k; rw [← hL.out, hln.out] at this; rw [Hid]; omega
      by_cases hlt : k < n
      · have hlk : (k : Int) < (n : Int) := by omega
        obtain ⟨b, o, p, r, rfl, hb, hp, pa, R⟩ := H4.out.at_ hlt
        have PA0 := Lib.hid pa
        obtain ⟨⟨A1, c1, A2, c2, rfl, _, _⟩, _, _⟩ := pa
        have hGO : GrOk L := by rw [hL.out]; exact runG_ok _ _ .nil
        have ELq := refL_eq hGO p
        have hb4 : b < gx := by rw [hgx.out]; exact hb
        have hst : Stay (fun q => q ≠ gx) w5 wi := KW.out.stay fun q _ h e => h e
        have RP : Hid (wi.rangeAt b (o + k * 4) (patC p.1 A1 p.2.1.length c1 A2 p.2.2.length c2)) := by
          have h1 := rangeAt_below R BNx.out hb4
          exact rangeAt_keep h1 fun j => World.cell?_of_block (KW.out.block b (Nat.lt_trans hb4 hx4.out) (fun e => by have e : b = gx := e; omega))
        have hbl : Hid (b < wi.heap.size) := Nat.lt_of_lt_of_le (Nat.lt_trans hb4 hx4.out) KW.out.size
        have NL : Hid (refL L p = runG [] (l.take (k + 1))) := by rw [Hid, ELq, runG_snoc [] hp, ← hL.out]
        have HN : Hid (∀ q, wi.heap.size ≤ q → q ≠ gx) := fun q e e2 => by have := KX.out.lt; omega
        have PIN : Hid (PatIn wi (fun q => q ≠ gx ∧ q < wi.heap.size) (patC p.1 A1 p.2.1.length c1 A2 p.2.2.length c2) p) := by
          have h1 : PatIn w5 (fun q => q < w4.heap.size) (patC p.1 A1 p.2.1.length c1 A2 p.2.2.length c2) p := PA0.out.in_.ext (by rw [← hgx.out]; exact BNx.out)
          exact (h1.stay (KW.out.stay fun q _ h e => by have e : q = gx := e; have := hgx.out; omega)).mono fun q e => ⟨fun e2 => by have := hgx.out; omega, by have := hgx.out; have := hx4.out; have := KW.out.size; omega⟩
        have PXB := Lib.hid PX.out.both20
        have HA := Lib.hid (fun (u : World) (hu : Below wi.heap.size wi u) => rapply20_any L p u (fun q => q ≠ gx ∧ q < wi.heap.size) (fun q e => Nat.lt_of_lt_of_le e.2 hu.size) Ax L.length cx (PXB.out.ext hu) _ (PIN.out.ext hu) (by have := hLn.out; omega))
        have HIX : Hid (∀ u : World, (Instr.indexAt 22 (.slice (some ⟨b, o, none⟩) n c) (.int .i64 ((k : Nat) : Int))).run Tryz.prog u = .ok (.pointer (some ⟨b, o + k * 4, none⟩)) u) := fun u => indexPats20r b o n c k hlt u
        clear R hb hp PX hst ELq hGO hb4
        go_upto_region 7 with fail
        refine wp_region_Z (S := fun w' => Below wi.heap.size wi w') (Z := [9]) mixedS ?_
        have B5 : Hid (Below wi.heap.size wi wi.drew) := (Below.refl _ _).drew
        change wpAnyZ _ _ _ _ _ _ _ _ _ wi.drew
        generalize wi.drew = w5x at B5 ⊢
        simp only [List.size_toArray, List.length_cons, List.length_nil]
        refine zV (i := 0) rfl (by kernel_rfl) (by kernel_rfl) (by kernel_rfl) (by kernel_rfl) (by kernel_rfl) (fun _ _ _ h => h) rfl (fun w' h => exMid rfl (blk_pat (cs := [.slice Ax L.length cx]) (KX.out.ext h)) underG20 rfl infoG20) B5.out ?_
        simp only [Act.put, List.setIfInBounds_toArray, List.set_cons_zero, List.set_cons_succ]
        refine zV (i := 1) rfl (by kernel_rfl) (by kernel_rfl) (by kernel_rfl) (by kernel_rfl) (by kernel_rfl) (fun _ _ _ h => h) rfl (fun w' h => exMove (v := .slice (some ⟨b, o, none⟩) n c) rfl) B5.out ?_
        simp only [Act.put, List.setIfInBounds_toArray, List.set_cons_zero, List.set_cons_succ]
        refine zV (i := 2) rfl (by kernel_rfl) (by kernel_rfl) (by kernel_rfl) (by kernel_rfl) (by kernel_rfl) (fun _ _ _ h => h) rfl (fun w' h => exMove (v := .int .i64 ((k : Nat) : Int)) rfl) B5.out ?_
        simp only [Act.put, List.setIfInBounds_toArray, List.set_cons_zero, List.set_cons_succ]
        refine zV (i := 3) rfl (by kernel_rfl) (by kernel_rfl) (by kernel_rfl) (by kernel_rfl) (by kernel_rfl) (fun _ _ _ h => h) rfl (fun w' h => exIndex rfl rfl (HIX.out w')) B5.out ?_
        simp only [Act.put, List.setIfInBounds_toArray, List.set_cons_zero, List.set_cons_succ]
        refine zV (i := 4) rfl (by kernel_rfl) (by kernel_rfl) (by kernel_rfl) (by kernel_rfl) (by kernel_rfl) (fun _ _ _ h => h) rfl (fun w' h => exMid rfl (rangeAt_below RP.out h hbl.out) underPat rfl infoPat) B5.out ?_
        simp only [Act.put, List.setIfInBounds_toArray, List.set_cons_zero, List.set_cons_succ]
        refine wpAnyZ_all (rs := [5]) (by kernel_rfl) (by simp) ?_
        intro i hi
        simp only [List.mem_cons, List.not_mem_nil, or_false] at hi
        subst hi
        refine wpOp_of rfl rfl (wp_called (args := #[.agg #[.slice Ax L.length cx], .agg (patC p.1 A1 p.2.1.length c1 A2 p.2.2.length c2).toArray]) hcA (by simp only [List.map_toArray, List.map_cons, List.map_nil]; rfl) (HA.out w5x B5.out) ?_)
        rintro e w6 ⟨Ay, cy, rfl, px, b6⟩
        have B6 := Lib.hid (ext_trans B5.out b6)
        have PX6 : Hid (PatsIn w6 (fun q => q ≠ gx) Ay (refL L p).length (refL L p)) := px.mono fun q e => e.elim (fun e => e.1) (fun e => HN.out q (Nat.le_trans B5.out.size e))
        refine ⟨_, rfl, fun _ => B6.out, ?_⟩
        simp only [Act.put, List.setIfInBounds_toArray, List.set_cons_zero, List.set_cons_succ]
        clear px b6 B5
        refine zV (i := 6) rfl (by kernel_rfl) (by kernel_rfl) (by kernel_rfl) (by kernel_rfl) (by kernel_rfl) (fun _ _ _ h => h) rfl (fun w' h => exMove (v := .tuple #[.agg #[.slice Ay (refL L p).length cy], .int .i64 ((refK L p : Nat) : Int)]) rfl) B6.out ?_
        simp only [Act.put, List.setIfInBounds_toArray, List.set_cons_zero, List.set_cons_succ]
        refine zV (i := 7) rfl (by kernel_rfl) (by kernel_rfl) (by kernel_rfl) (by kernel_rfl) (by kernel_rfl) (fun _ _ _ h => h) rfl (fun w' h => exExtract (v := .agg #[.slice Ay (refL L p).length cy]) rfl rfl) B6.out ?_
        simp only [Act.put, List.setIfInBounds_toArray, List.set_cons_zero, List.set_cons_succ]
        refine zLight (i := 8) rfl (by kernel_rfl) (by kernel_rfl) (by kernel_rfl) (by kernel_rfl) (fun _ _ _ h => h) rfl (fun w' => exExtract (v := .int .i64 ((refK L p : Nat) : Int)) rfl rfl) (fun _ => B6.out) ?_
        simp only [Act.put, List.setIfInBounds_toArray, List.set_cons_zero, List.set_cons_succ]
        have KX6 := Lib.hid (KX.out.ext B6.out)
        refine wpAnyZ_all (rs := [9]) (by kernel_rfl) (by simp) ?_
        intro i hi
        simp only [List.mem_cons, List.not_mem_nil, or_false] at hi
        subst hi
        refine wpOp_of rfl rfl (wp_stored (cs := #[.slice Ay (refL L p).length cy]) rfl rfl KX6.out infoG20 rfl (by simp [Value.oneCell']) ?_)
        refine ⟨noZ (by kernel_rfl), ?_⟩
        refine wpAnyZ_done (by kernel_rfl) ?_ _
        have KW6 := Lib.hid (KW.out.then B6.out)
        have B7 := Lib.hid (below_setRow (B.out.trans (B6.out.mono B.out.size)) hgw.out #[.slice Ay (refL L p).length cy])
        have K7 := Lib.hid (KX6.out.row #[.slice Ay (refL L p).length cy])
        have P7 := Lib.hid (patsIn_far (G := fun q => q ≠ gx) (PX6.out.mono fun q e => ⟨e, e⟩) #[.slice Ay (refL L p).length cy])
        have KW7 := Lib.hid (Kept.row20 (F := fun q => q = gx) KW6.out (.inl rfl) #[.slice Ay (refL L p).length cy])
        clear KX6 B6 PX6 KW6 KX KW B PXB HA PIN HIX RP
        go_wp2_with fail
        go_roundw
        case rel => exact ⟨k + 1, Ay, cy, refL L p, by omega, by go_num, NL.out, KW7.out, K7.out, P7.out, B7.out⟩
        case measure => simp [intOf]; omega
      · have hlk : ¬ (k : Int) < (n : Int) := by omega
        rw [List.take_of_length_le (by rw [hln.out]; omega)] at hL
        have HGi : Hid (GraphAt wi F g L) := by rw [Hid, hL.out]; exact HG.out.stay (KW.out.stay fun q _ hF e => hgF.out (by have e : q = gx := e; rw [← e]; exact hF))
        have KVi : Hid (Blk wi gv 43 (encV v).toArray) := KW.out.blk KV5.out (fun e => by have e : gv = gx := e; have := hgvx.out; omega)
        have PTi := Lib.hid PX.out.at_
        clear HG KV5 KW H4 H5 PX hAx BNx
        have HV1 := Lib.hid (vert20_any HGi.out.mem v)
        obtain ⟨x, hx⟩ : ∃ x, x = vertD L v := ⟨_, rfl⟩
        obtain ⟨ok, hok⟩ : ∃ ok, ok = (vertV L v).isSome := ⟨_, rfl⟩
        rw [← hx, ← hok] at HV1
        replace hx := Lib.hid hx
        replace hok := Lib.hid hok
        go_wp2_with (refine wpList_load_row rfl 43 _ (by rfl) gv (by rfl) _ _ _ _ KVi.out underVid rfl infoVid ?_)
        refine HV1.out.mono ?_
        rintro e w6 ⟨rfl, b6⟩
        have KA : Hid (Blk ((w6.alloc (.cells zeroX 46)).setRow w6.heap.size (encX x).toArray) w6.heap.size 46 (encX x).toArray) := (Blk.new _ _ _).row _
        have BN : Hid (Below w6.heap.size w6 ((w6.alloc (.cells zeroX 46)).setRow w6.heap.size (encX x).toArray)) := below_setRow (below_new w6 _) (Nat.le_refl _) _
        have BA : Hid (Below wi.heap.size wi ((w6.alloc (.cells zeroX 46)).setRow w6.heap.size (encX x).toArray)) := ext_trans b6 BN.out
        clear b6 HV1
        go_upto_region 9 with (first
          | (refine wpList_alloced (allocVert _) ?_)
          | (refine wpList_store_row rfl 46 _ _ (by rfl) w6.heap.size (encX x).toArray (by rfl) (by rfl) _ _ (Blk.new _ _ _) infoVert rfl (encX_all _) ?_))
        clear BN
        generalize ((w6.alloc (.cells zeroX 46)).setRow w6.heap.size (encX x).toArray) = w7 at *
        generalize w6.heap.size = ga at *
        have KV7 := Lib.hid (KVi.out.ext BA.out)
        have KX7 := Lib.hid (KX.out.ext BA.out)
        have HV2 := Lib.hid (rvert20_any L w7 Ax L.length cx (by unfold maxLen; have := hLn.out; omega) (PTi.out.ext BA.out) v)
        rw [← hx.out, ← hok.out] at HV2
        go_wp2_with (first
          | (refine wpList_load_row rfl 28 _ (by rfl) gx (by rfl) _ _ _ _ KX7.out underG20 rfl infoG20 ?_)
          | (refine wpList_load_row rfl 43 _ (by rfl) gv (by rfl) _ _ _ _ KV7.out underVid rfl infoVid ?_))
        refine HV2.out.mono ?_
        rintro e w7b ⟨rfl, b7⟩
        have KB : Hid (Blk ((w7b.alloc (.cells zeroX 46)).setRow w7b.heap.size (encX x).toArray) w7b.heap.size 46 (encX x).toArray) := (Blk.new _ _ _).row _
        have BN : Hid (Below w7b.heap.size w7b ((w7b.alloc (.cells zeroX 46)).setRow w7b.heap.size (encX x).toArray)) := below_setRow (below_new w7b _) (Nat.le_refl _) _
        have BB : Hid (Below wi.heap.size wi ((w7b.alloc (.cells zeroX 46)).setRow w7b.heap.size (encX x).toArray)) := ext_trans (ext_trans BA.out b7) BN.out
        have KA8 : Hid (Blk ((w7b.alloc (.cells zeroX 46)).setRow w7b.heap.size (encX x).toArray) ga 46 (encX x).toArray) := (KA.out.ext b7).ext BN.out
        clear b7 HV2 KV7 KX7 BA KA
        go_upto_region 10 with (first
          | (refine wpList_alloced (allocVert _) ?_)
          | (refine wpList_store_row rfl 46 _ _ (by rfl) w7b.heap.size (encX x).toArray (by rfl) (by rfl) _ _ (Blk.new _ _ _) infoVert rfl (encX_all _) ?_))
        clear BN
        generalize ((w7b.alloc (.cells zeroX 46)).setRow w7b.heap.size (encX x).toArray) = w8 at *
        generalize w7b.heap.size = gb at *
        have NE := fun u => neqX_self x u
        have zok : (ok != ok) = false := by simp
        go_upto_region 12 with (first
          | (refine wpList_load_row rfl 46 _ (by rfl) ga (by rfl) _ _ _ _ KA8.out underVert rfl infoVert ?_)
          | (refine wpList_load_row rfl 46 _ (by rfl) gb (by rfl) _ _ _ _ KB.out underVert rfl infoVert ?_))
        have KX8 := Lib.hid (KX.out.ext BB.out)
        have KV8 := Lib.hid (KVi.out.ext BB.out)
        have PT8 := Lib.hid (PTi.out.ext BB.out)
        have HG8 := Lib.hid (HGi.out.ext BB.out)
        have B8 := Lib.hid (B.out.trans (BB.out.mono B.out.size))
        have hf4 : Hid (L.length ≤ 400) := by have := hLn.out; rw [Hid]; omega
        have h200 : Hid (∀ p ∈ L, p.2.2.length ≤ 200) := fun p hp => HGi.out.ok.few hp
        have HFl := Lib.hid (fun (u : World) (hu : Below w8.heap.size w8 u) => rfiles20_any L u Ax L.length cx (PT8.out.ext hu) hf4.out h200.out)
        have hlx := vertsL_few HGi.out.ok hf4.out
        have hlf : (filesL L).length ≤ 80000 := by unfold filesL; rw [List.length_map]; exact Nat.le_trans (List.length_filter_le _ _) hlx
        have hle := edgesL_few HGi.out.ok hf4.out
        have hlo : Hid (∀ y, (ofL L y kn).length ≤ 80000) := fun y => Nat.le_trans (List.length_filter_le _ _) hlx
        have hls : Hid (∀ y, (stepsL L y).length ≤ 80000) := fun y => Nat.le_trans (List.length_filter_le _ _) hle
        have hcF : ∀ args u, (callFunc 21 args).run Tryz.prog u = .ok (.enter 21 args) u := enters_of Tryz.func21 (by kernel_rfl) rfl
        clear KX KVi PTi HGi BB KA8 KB hlx hle NE zok B
        generalize filesL L = FL at *
        obtain ⟨nf, hnf⟩ : ∃ n, n = FL.length := ⟨_, rfl⟩
        rw [← hnf] at HFl hlf
        replace hnf := Lib.hid hnf.symm
        go_cut [14] (fun av wx => ∃ Aa ca, av = .slice Aa (nf + 1) ca ∧ VidsAt wx Aa (nf + 1) (FL ++ [v]) ∧ Below w8.heap.size w8 wx)
        case first =>
          refine wp_region_held (S := fun w' => Below w8.heap.size w8 w') mixedS ?_
          change wpAnyH _ _ _ _ _ _ _ _ w8.drew
          have B9 : Hid (Below w8.heap.size w8 w8.drew) := (Below.refl _ _).drew
          generalize w8.drew = w9 at B9 ⊢
          simp only [List.size_toArray, List.length_cons, List.length_nil]
          refine takeV (i := 0) (d := 58) (v := .agg #[.slice Ax L.length cx]) rfl (by kernel_rfl) (by kernel_rfl) (by kernel_rfl) (fun _ _ _ h => h) rfl (fun w' h => exMid rfl (blk_pat (cs := [.slice Ax L.length cx]) (KX8.out.ext h)) underG20 rfl infoG20) B9.out ?_
          simp only [Act.put, List.setIfInBounds_toArray, List.set_cons_zero, List.set_cons_succ]
          refine takeV (i := 2) (d := 60) (v := .agg (encV v).toArray) rfl (by kernel_rfl) (by kernel_rfl) (by kernel_rfl) (fun _ _ _ h => h) rfl (fun w' h => exMid rfl (blk_pat (KV8.out.ext h)) underVid rfl infoVid) B9.out ?_
          simp only [Act.put, List.setIfInBounds_toArray, List.set_cons_zero, List.set_cons_succ]
          refine wpAnyH_all (rs := [1, 3]) (by kernel_rfl) (by simp) ?_
          intro i hi
          simp only [List.mem_cons, List.not_mem_nil, or_false] at hi
          rcases hi with rfl | rfl
          · refine wpOp_of rfl rfl (wp_called (args := #[.agg #[.slice Ax L.length cx]]) hcF (by simp only [List.map_toArray, List.map_cons, List.map_nil]; rfl) (HFl.out w9 B9.out) ?_)
            rintro e w_1 ⟨_, rfl, o_2, h_3⟩
            have O_6 : Hid (w_1.ownsRow w8.heap.size 43 3 _ nf (FL.flatMap encV)) := own_mono' o_2 B9.out.size
            obtain ⟨A_4, c_5, e_, _, _⟩ := Sl.of_own o_2
            subst e_
            refine ⟨_, rfl, ext_trans B9.out h_3, ?_⟩
            simp only [Act.put, List.setIfInBounds_toArray, List.set_cons_zero, List.set_cons_succ]
            have B_7 := Lib.hid (ext_trans B9.out h_3)
            clear B9
            clear h_3 o_2
            refine wpAnyH_all (rs := [3]) (by kernel_rfl) (by simp) ?_
            intro i hi
            simp only [List.mem_cons, List.not_mem_nil, or_false] at hi
            subst hi
            have L_10 : Hid (Blk (w_1.alloc (.cells (encV v).toArray 43)) w_1.heap.size 43 (encV v).toArray) := Blk.new _ _ _
            have N_12 : Hid (∀ q, (Value.slice A_4 nf c_5).ownBlock = some q → q ≠ w_1.heap.size) := fun q e => Nat.ne_of_lt (O_6.out.lt q e).2
            have h_11 : Below w_1.heap.size w_1 (w_1.alloc (.cells (encV v).toArray 43)) := below_new _ _
            refine wpOp_of rfl rfl (wp_lit1 vidSl (cs := encV v) (encV_len v) (by omega) rfl ?_)
            refine ⟨ext_trans B_7.out h_11, ?_⟩
            simp only [Act.put, List.setIfInBounds_toArray, List.set_cons_zero, List.set_cons_succ]
            generalize (w_1.alloc (.cells (encV v).toArray 43)) = w_8 at *
            have B_13 := Lib.hid (ext_trans B_7.out h_11)
            have F_14 := Lib.hid (own_ext O_6.out h_11)
            clear B_7 O_6
            clear h_11
            generalize w_1.heap.size = g_9 at *
            refine wpAnyH_all (rs := [4]) (by kernel_rfl) (by simp) ?_
            intro i hi
            simp only [List.mem_cons, List.not_mem_nil, or_false] at hi
            subst hi
            refine wpOp_of rfl rfl (wp_catF vidSl F_14.out (sl_lit L_10.out (encV_len v)) (encV_one v) B_13.out.size (by omega) (by unfold maxLen; omega) rfl rfl ?_)
            intro v_16 w_15 o_17 k_18 hv_19
            have B_20 : Hid (Below w8.heap.size w8 w_15) := B_13.out.trans (k_18.below (fun k e => (F_14.out.lt k e).1) B_13.out.size)
            obtain ⟨A_21, c_22, rfl, _, s_23⟩ := Sl.of_own o_17
            have V_24 : Hid (VidsAt w_15 A_21 (nf + 1) (FL ++ [v])) := ⟨by rw [List.length_append, hnf.out]; rfl, by rw [List.flatMap_append]; simpa using s_23⟩
            refine ⟨B_20.out, ?_⟩
            simp only [Act.put, List.setIfInBounds_toArray, List.set_cons_zero, List.set_cons_succ]
            clear o_17 k_18 hv_19 s_23 B_13 F_14 L_10 N_12
            refine takeV (i := 5) (d := 14) (v := .slice A_21 (nf + 1) c_22) rfl (by kernel_rfl) (by kernel_rfl) (by kernel_rfl) (fun _ _ _ h => h) rfl (fun _ _ => exAssign (v := .slice A_21 (nf + 1) c_22) rfl) B_20.out ?_
            simp only [Act.put, List.setIfInBounds_toArray, List.set_cons_zero, List.set_cons_succ]
            refine wpAnyH_done (by kernel_rfl) ?_ _
            go_wp2_with fail
            go_meet
            case rel => exact ⟨_, _, rfl, V_24.out, B_20.out⟩
          · have L_27 : Hid (Blk (w9.alloc (.cells (encV v).toArray 43)) w9.heap.size 43 (encV v).toArray) := Blk.new _ _ _
            have h_28 : Below w9.heap.size w9 (w9.alloc (.cells (encV v).toArray 43)) := below_new _ _
            refine wpOp_of rfl rfl (wp_lit1 vidSl (cs := encV v) (encV_len v) (by omega) rfl ?_)
            refine ⟨ext_trans B9.out h_28, ?_⟩
            simp only [Act.put, List.setIfInBounds_toArray, List.set_cons_zero, List.set_cons_succ]
            generalize (w9.alloc (.cells (encV v).toArray 43)) = w_25 at *
            have B_29 := Lib.hid (ext_trans B9.out h_28)
            clear B9
            clear h_28
            generalize w9.heap.size = g_26 at *
            refine wpAnyH_all (rs := [1]) (by kernel_rfl) (by simp) ?_
            intro i hi
            simp only [List.mem_cons, List.not_mem_nil, or_false] at hi
            subst hi
            refine wpOp_of rfl rfl (wp_called (args := #[.agg #[.slice Ax L.length cx]]) hcF (by simp only [List.map_toArray, List.map_cons, List.map_nil]; rfl) (HFl.out w_25 B_29.out) ?_)
            rintro e w_30 ⟨_, rfl, o_31, h_32⟩
            have O_35 : Hid (w_30.ownsRow w8.heap.size 43 3 _ nf (FL.flatMap encV)) := own_mono' o_31 B_29.out.size
            obtain ⟨A_33, c_34, e_, _, _⟩ := Sl.of_own o_31
            subst e_
            have N_36 : Hid (∀ q, (Value.slice A_33 nf c_34).ownBlock = some q → q ≠ g_26) := fun q e => by have := (o_31.lt q e).1; have := L_27.out.lt; omega
            refine ⟨_, rfl, ext_trans B_29.out h_32, ?_⟩
            simp only [Act.put, List.setIfInBounds_toArray, List.set_cons_zero, List.set_cons_succ]
            have B_37 := Lib.hid (ext_trans B_29.out h_32)
            have F_38 := Lib.hid (L_27.out.ext h_32)
            clear B_29 L_27
            clear h_32 o_31
            refine wpAnyH_all (rs := [4]) (by kernel_rfl) (by simp) ?_
            intro i hi
            simp only [List.mem_cons, List.not_mem_nil, or_false] at hi
            subst hi
            refine wpOp_of rfl rfl (wp_catF vidSl O_35.out (sl_lit F_38.out (encV_len v)) (encV_one v) B_37.out.size (by omega) (by unfold maxLen; omega) rfl rfl ?_)
            intro v_40 w_39 o_41 k_42 hv_43
            have B_44 : Hid (Below w8.heap.size w8 w_39) := B_37.out.trans (k_42.below (fun k e => (O_35.out.lt k e).1) B_37.out.size)
            obtain ⟨A_45, c_46, rfl, _, s_47⟩ := Sl.of_own o_41
            have V_48 : Hid (VidsAt w_39 A_45 (nf + 1) (FL ++ [v])) := ⟨by rw [List.length_append, hnf.out]; rfl, by rw [List.flatMap_append]; simpa using s_47⟩
            refine ⟨B_44.out, ?_⟩
            simp only [Act.put, List.setIfInBounds_toArray, List.set_cons_zero, List.set_cons_succ]
            clear o_41 k_42 hv_43 s_47 B_37 F_38 N_36 O_35
            refine takeV (i := 5) (d := 14) (v := .slice A_45 (nf + 1) c_46) rfl (by kernel_rfl) (by kernel_rfl) (by kernel_rfl) (fun _ _ _ h => h) rfl (fun _ _ => exAssign (v := .slice A_45 (nf + 1) c_46) rfl) B_44.out ?_
            simp only [Act.put, List.setIfInBounds_toArray, List.set_cons_zero, List.set_cons_succ]
            refine wpAnyH_done (by kernel_rfl) ?_ _
            go_wp2_with fail
            go_meet
            case rel => exact ⟨_, _, rfl, V_48.out, B_44.out⟩
        case rest =>
          obtain ⟨Aa, ca, rfl, va, bx⟩ := hcut
          obtain ⟨ws, rfl⟩ : ∃ wx, wx = wc := ⟨_, rfl⟩
          have VA := Lib.hid va
          have KXs := Lib.hid (KX8.out.ext bx)
          have PTs := Lib.hid (PT8.out.ext bx)
          have HGs := Lib.hid (HG8.out.ext bx)
          have BS := Lib.hid (B8.out.trans (bx.mono B8.out.size))
          clear va bx KX8 PT8 HG8 B8 KV8 HFl
          obtain ⟨m, hmm⟩ : ∃ m, m = nf + 1 := ⟨_, rfl⟩
          rw [← hmm] at VA ⊢
          have hm8 : m ≤ 80001 := by omega
          replace hmm := Lib.hid hmm
          go_wp2_with fail
          go_loopw [15] (fun i wr => ∃ k : Nat, k ≤ m ∧ i = .int .i64 k ∧ Hid (Below ws.heap.size ws wr)) (fun i _ => m - (intOf i).toNat)
          case atStart => exact ⟨0, by omega, rfl, Below.refl _ _⟩
          case round =>
            obtain ⟨k, hk, rfl, BI0⟩ := hrel
            obtain ⟨wj, rfl⟩ : ∃ wx, wx = wr := ⟨_, rfl⟩
            have hk0 : (0 : Int) ≤ (k : Int) := by omega
            by_cases hlt : k < m
            · have hlk : (k : Int) < (m : Int) := by omega
              obtain ⟨b, o, y, rfl, hb, hy, R⟩ := (VA.out.ext BI0.out).at_ hlt
              have RY := Lib.hid R
              have hbl := Lib.hid hb
              have BI := BI0
              have KXi := Lib.hid (KXs.out.ext BI0.out)
              have HG9 := HGs.out.ext BI0.out
              have PT9 := PTs.out.ext BI0.out
              have HO1 := Lib.hid (fun (u : World) (hu : Below wj.heap.size wj u) => of20_any (HG9.ext hu) hf4.out y kn)
              have HO2 := Lib.hid (fun (u : World) (hu : Below wj.heap.size wj u) => rof20_any L u Ax L.length cx (PT9.ext hu) hf4.out h200.out y kn)
              have HS1 := Lib.hid (fun (u : World) (hu : Below wj.heap.size wj u) => stepsOf20_any (HG9.ext hu) hf4.out y)
              have HS2 := Lib.hid (fun (u : World) (hu : Below wj.heap.size wj u) => rsteps20_any L u Ax L.length cx (PT9.ext hu) hf4.out h200.out y)
              have HQX := Lib.hid (fun (u : World) (A A' : Option Addr) (c c' : Nat) (a : VertsAt u A (ofL L y kn).length (ofL L y kn)) (b : VertsAt u A' (ofL L y kn).length (ofL L y kn)) => sameX (ofL L y kn) u A A' _ c c' a b (by unfold maxLen; have := hlo.out y; omega))
              have HQE := Lib.hid (fun (u : World) (A A' : Option Addr) (c c' : Nat) (a : EdgesAt u A (stepsL L y).length (stepsL L y)) (b : EdgesAt u A' (stepsL L y).length (stepsL L y)) => sameE (stepsL L y) u A A' _ c c' a b (by unfold maxLen; have := hls.out y; omega))
              have HIX := Lib.hid (fun u => indexV20 b o m ca k hlt u)
              clear hy R hb HG9 PT9
              generalize ofL L y kn = XO at *
              generalize stepsL L y = EO at *
              obtain ⟨nx, hnx⟩ : ∃ n, n = XO.length := ⟨_, rfl⟩
              obtain ⟨ne, hne⟩ : ∃ n, n = EO.length := ⟨_, rfl⟩
              rw [← hnx] at HO1 HO2 HQX
              rw [← hne] at HS1 HS2 HQE
              replace hnx := Lib.hid hnx
              replace hne := Lib.hid hne
              have hc1 : ∀ args u, (callFunc 23 args).run Tryz.prog u = .ok (.enter 23 args) u := enters_of Tryz.func23 (by kernel_rfl) rfl
              have hc2 : ∀ args u, (callFunc 24 args).run Tryz.prog u = .ok (.enter 24 args) u := enters_of Tryz.func24 (by kernel_rfl) rfl
              have hc3 : ∀ args u, (callFunc 22 args).run Tryz.prog u = .ok (.enter 22 args) u := enters_of Tryz.func22 (by kernel_rfl) rfl
              have hc4 : ∀ args u, (callFunc 26 args).run Tryz.prog u = .ok (.enter 26 args) u := enters_of Tryz.func26 (by kernel_rfl) rfl
              have hc5 : ∀ args u, (callFunc 27 args).run Tryz.prog u = .ok (.enter 27 args) u := enters_of Tryz.func27 (by kernel_rfl) rfl
              have hc6 : ∀ args u, (callFunc 25 args).run Tryz.prog u = .ok (.enter 25 args) u := enters_of Tryz.func25 (by kernel_rfl) rfl
              go_upto_region 16 with fail
              try go_frame
              refine wp_region_held (S := fun w' => Below wj.heap.size wj w') mixedS ?_
              change wpAnyH _ _ _ _ _ _ _ _ wj.drew
              have B9 : Hid (Below wj.heap.size wj wj.drew) := (Below.refl _ _).drew
              generalize wj.drew = w9 at B9 ⊢
              simp only [List.size_toArray, List.length_cons, List.length_nil]
              refine takeV (i := 0) (d := 69) (v := .pointer (some ⟨g, 0, none⟩)) rfl (by kernel_rfl) (by kernel_rfl) (by kernel_rfl) (fun _ _ _ h => h) rfl (fun _ _ => exMove (v := .pointer (some ⟨g, 0, none⟩)) rfl) B9.out ?_
              simp only [Act.put, List.setIfInBounds_toArray, List.set_cons_zero, List.set_cons_succ]
              refine takeV (i := 1) (d := 70) (v := .slice (some ⟨b, o, none⟩) m ca) rfl (by kernel_rfl) (by kernel_rfl) (by kernel_rfl) (fun _ _ _ h => h) rfl (fun _ _ => exMove (v := .slice (some ⟨b, o, none⟩) m ca) rfl) B9.out ?_
              simp only [Act.put, List.setIfInBounds_toArray, List.set_cons_zero, List.set_cons_succ]
              refine takeV (i := 2) (d := 71) (v := .int .i64 ((k : Nat) : Int)) rfl (by kernel_rfl) (by kernel_rfl) (by kernel_rfl) (fun _ _ _ h => h) rfl (fun _ _ => exMove (v := .int .i64 ((k : Nat) : Int)) rfl) B9.out ?_
              simp only [Act.put, List.setIfInBounds_toArray, List.set_cons_zero, List.set_cons_succ]
              refine takeV (i := 3) (d := 72) (v := .pointer (some ⟨b, o + k * 3, none⟩)) rfl (by kernel_rfl) (by kernel_rfl) (by kernel_rfl) (fun _ _ _ h => h) rfl (fun w' _ => exIndex rfl rfl (HIX.out w')) B9.out ?_
              simp only [Act.put, List.setIfInBounds_toArray, List.set_cons_zero, List.set_cons_succ]
              refine takeV (i := 4) (d := 73) (v := .agg (encV y).toArray) rfl (by kernel_rfl) (by kernel_rfl) (by kernel_rfl) (fun _ _ _ h => h) rfl (fun w' h => exMid rfl (rangeAt_below RY.out h hbl.out) underVid rfl infoVid) B9.out ?_
              simp only [Act.put, List.setIfInBounds_toArray, List.set_cons_zero, List.set_cons_succ]
              refine takeV (i := 5) (d := 74) (v := .int .u8 (kn : Int)) rfl (by kernel_rfl) (by kernel_rfl) (by kernel_rfl) (fun _ _ _ h => h) rfl (fun _ _ => exMove (v := .int .u8 (kn : Int)) rfl) B9.out ?_
              simp only [Act.put, List.setIfInBounds_toArray, List.set_cons_zero, List.set_cons_succ]
              refine takeV (i := 7) (d := 76) (v := .agg #[.slice Ax L.length cx]) rfl (by kernel_rfl) (by kernel_rfl) (by kernel_rfl) (fun _ _ _ h => h) rfl (fun w' h => exMid rfl (blk_pat (cs := [.slice Ax L.length cx]) (KXi.out.ext h)) underG20 rfl infoG20) B9.out ?_
              simp only [Act.put, List.setIfInBounds_toArray, List.set_cons_zero, List.set_cons_succ]
              refine takeV (i := 8) (d := 77) (v := .slice (some ⟨b, o, none⟩) m ca) rfl (by kernel_rfl) (by kernel_rfl) (by kernel_rfl) (fun _ _ _ h => h) rfl (fun _ _ => exMove (v := .slice (some ⟨b, o, none⟩) m ca) rfl) B9.out ?_
              simp only [Act.put, List.setIfInBounds_toArray, List.set_cons_zero, List.set_cons_succ]
              refine takeV (i := 9) (d := 78) (v := .int .i64 ((k : Nat) : Int)) rfl (by kernel_rfl) (by kernel_rfl) (by kernel_rfl) (fun _ _ _ h => h) rfl (fun _ _ => exMove (v := .int .i64 ((k : Nat) : Int)) rfl) B9.out ?_
              simp only [Act.put, List.setIfInBounds_toArray, List.set_cons_zero, List.set_cons_succ]
              refine takeV (i := 10) (d := 79) (v := .pointer (some ⟨b, o + k * 3, none⟩)) rfl (by kernel_rfl) (by kernel_rfl) (by kernel_rfl) (fun _ _ _ h => h) rfl (fun w' _ => exIndex rfl rfl (HIX.out w')) B9.out ?_
              simp only [Act.put, List.setIfInBounds_toArray, List.set_cons_zero, List.set_cons_succ]
              refine takeV (i := 11) (d := 80) (v := .agg (encV y).toArray) rfl (by kernel_rfl) (by kernel_rfl) (by kernel_rfl) (fun _ _ _ h => h) rfl (fun w' h => exMid rfl (rangeAt_below RY.out h hbl.out) underVid rfl infoVid) B9.out ?_
              simp only [Act.put, List.setIfInBounds_toArray, List.set_cons_zero, List.set_cons_succ]
              refine takeV (i := 12) (d := 81) (v := .int .u8 (kn : Int)) rfl (by kernel_rfl) (by kernel_rfl) (by kernel_rfl) (fun _ _ _ h => h) rfl (fun _ _ => exMove (v := .int .u8 (kn : Int)) rfl) B9.out ?_
              simp only [Act.put, List.setIfInBounds_toArray, List.set_cons_zero, List.set_cons_succ]
              refine wpAnyH_all (rs := [6]) (by kernel_rfl) (by simp) ?_
              intro i hi
              simp only [List.mem_cons, List.not_mem_nil, or_false] at hi
              subst hi
              refine wpOp_of rfl rfl (wp_called (args := #[.pointer (some ⟨g, 0, none⟩), .agg (encV y).toArray, .int .u8 (kn : Int)]) hc1 (by simp only [List.map_toArray, List.map_cons, List.map_nil]; rfl) (HO1.out w9 B9.out) ?_)
              rintro e w_1 ⟨_, rfl, o_3, h_2⟩
              obtain ⟨A_4, c_5, rfl, _, p_6⟩ := VertsAt.of_own o_3 hnx.out.symm
              have P_7 := Lib.hid p_6
              refine ⟨_, rfl, ext_trans B9.out h_2, ?_⟩
              simp only [Act.put, List.setIfInBounds_toArray, List.set_cons_zero, List.set_cons_succ]
              have B_8 := Lib.hid (ext_trans B9.out h_2)
              clear B9
              clear o_3 h_2 p_6
              refine wpAnyH_all (rs := [13]) (by kernel_rfl) (by simp) ?_
              intro i hi
              simp only [List.mem_cons, List.not_mem_nil, or_false] at hi
              subst hi
              refine wpOp_of rfl rfl (wp_called (args := #[.agg #[.slice Ax L.length cx], .agg (encV y).toArray, .int .u8 (kn : Int)]) hc2 (by simp only [List.map_toArray, List.map_cons, List.map_nil]; rfl) (HO2.out w_1 B_8.out) ?_)
              rintro e w_9 ⟨_, rfl, o_11, h_10⟩
              obtain ⟨A_12, c_13, rfl, _, p_14⟩ := VertsAt.of_own o_11 hnx.out.symm
              have P_15 := Lib.hid p_14
              refine ⟨_, rfl, ext_trans B_8.out h_10, ?_⟩
              simp only [Act.put, List.setIfInBounds_toArray, List.set_cons_zero, List.set_cons_succ]
              have B_16 := Lib.hid (ext_trans B_8.out h_10)
              have F_17 := Lib.hid (P_7.out.ext h_10)
              clear B_8 P_7
              clear o_11 h_10 p_14
              refine wpAnyH_all (rs := [14]) (by kernel_rfl) (by simp) ?_
              intro i hi
              simp only [List.mem_cons, List.not_mem_nil, or_false] at hi
              subst hi
              refine wpOp_of rfl rfl (wp_called (args := #[.slice A_4 nx c_5, .slice A_12 nx c_13]) hc3 (by simp only [List.map_toArray, List.map_cons, List.map_nil]; rfl) ((HQX.out w_9 _ _ _ _ F_17.out P_15.out).mono fun _ _ => RetB.ofD) ?_)
              rintro e w_18 ⟨rfl, h_19⟩
              refine ⟨_, rfl, ext_trans B_16.out h_19, ?_⟩
              simp only [Act.put, List.setIfInBounds_toArray, List.set_cons_zero, List.set_cons_succ]
              have B_20 := Lib.hid (ext_trans B_16.out h_19)
              have F_21 := Lib.hid (F_17.out.ext h_19)
              have F_22 := Lib.hid (P_15.out.ext h_19)
              clear B_16 F_17 P_15
              clear h_19
              refine takeV (i := 15) (d := 84) (v := .bool false) rfl (by kernel_rfl) (by kernel_rfl) (by kernel_rfl) (fun _ _ _ h => h) rfl (fun _ _ => exNotQ (b := true) rfl) B_20.out ?_
              simp only [Act.put, List.setIfInBounds_toArray, List.set_cons_zero, List.set_cons_succ]
              refine takeV (i := 16) (d := 85) (v := .bool false) rfl (by kernel_rfl) (by kernel_rfl) (by kernel_rfl) (fun _ _ _ h => h) rfl (fun _ _ => exMove (v := .bool false) rfl) B_20.out ?_
              simp only [Act.put, List.setIfInBounds_toArray, List.set_cons_zero, List.set_cons_succ]
              refine takeV (i := 17) (d := 86) (v := .pointer (some ⟨g, 0, none⟩)) rfl (by kernel_rfl) (by kernel_rfl) (by kernel_rfl) (fun _ _ _ h => h) rfl (fun _ _ => exMove (v := .pointer (some ⟨g, 0, none⟩)) rfl) B_20.out ?_
              simp only [Act.put, List.setIfInBounds_toArray, List.set_cons_zero, List.set_cons_succ]
              refine takeV (i := 18) (d := 87) (v := .slice (some ⟨b, o, none⟩) m ca) rfl (by kernel_rfl) (by kernel_rfl) (by kernel_rfl) (fun _ _ _ h => h) rfl (fun _ _ => exMove (v := .slice (some ⟨b, o, none⟩) m ca) rfl) B_20.out ?_
              simp only [Act.put, List.setIfInBounds_toArray, List.set_cons_zero, List.set_cons_succ]
              refine takeV (i := 19) (d := 88) (v := .int .i64 ((k : Nat) : Int)) rfl (by kernel_rfl) (by kernel_rfl) (by kernel_rfl) (fun _ _ _ h => h) rfl (fun _ _ => exMove (v := .int .i64 ((k : Nat) : Int)) rfl) B_20.out ?_
              simp only [Act.put, List.setIfInBounds_toArray, List.set_cons_zero, List.set_cons_succ]
              refine takeV (i := 20) (d := 89) (v := .pointer (some ⟨b, o + k * 3, none⟩)) rfl (by kernel_rfl) (by kernel_rfl) (by kernel_rfl) (fun _ _ _ h => h) rfl (fun w' _ => exIndex rfl rfl (HIX.out w')) B_20.out ?_
              simp only [Act.put, List.setIfInBounds_toArray, List.set_cons_zero, List.set_cons_succ]
              refine takeV (i := 21) (d := 90) (v := .agg (encV y).toArray) rfl (by kernel_rfl) (by kernel_rfl) (by kernel_rfl) (fun _ _ _ h => h) rfl (fun w' h => exMid rfl (rangeAt_below RY.out h hbl.out) underVid rfl infoVid) B_20.out ?_
              simp only [Act.put, List.setIfInBounds_toArray, List.set_cons_zero, List.set_cons_succ]
              refine takeV (i := 23) (d := 92) (v := .agg #[.slice Ax L.length cx]) rfl (by kernel_rfl) (by kernel_rfl) (by kernel_rfl) (fun _ _ _ h => h) rfl (fun w' h => exMid rfl (blk_pat (cs := [.slice Ax L.length cx]) (KXi.out.ext h)) underG20 rfl infoG20) B_20.out ?_
              simp only [Act.put, List.setIfInBounds_toArray, List.set_cons_zero, List.set_cons_succ]
              refine takeV (i := 24) (d := 93) (v := .slice (some ⟨b, o, none⟩) m ca) rfl (by kernel_rfl) (by kernel_rfl) (by kernel_rfl) (fun _ _ _ h => h) rfl (fun _ _ => exMove (v := .slice (some ⟨b, o, none⟩) m ca) rfl) B_20.out ?_
              simp only [Act.put, List.setIfInBounds_toArray, List.set_cons_zero, List.set_cons_succ]
              refine takeV (i := 25) (d := 94) (v := .int .i64 ((k : Nat) : Int)) rfl (by kernel_rfl) (by kernel_rfl) (by kernel_rfl) (fun _ _ _ h => h) rfl (fun _ _ => exMove (v := .int .i64 ((k : Nat) : Int)) rfl) B_20.out ?_
              simp only [Act.put, List.setIfInBounds_toArray, List.set_cons_zero, List.set_cons_succ]
              refine takeV (i := 26) (d := 95) (v := .pointer (some ⟨b, o + k * 3, none⟩)) rfl (by kernel_rfl) (by kernel_rfl) (by kernel_rfl) (fun _ _ _ h => h) rfl (fun w' _ => exIndex rfl rfl (HIX.out w')) B_20.out ?_
              simp only [Act.put, List.setIfInBounds_toArray, List.set_cons_zero, List.set_cons_succ]
              refine takeV (i := 27) (d := 96) (v := .agg (encV y).toArray) rfl (by kernel_rfl) (by kernel_rfl) (by kernel_rfl) (fun _ _ _ h => h) rfl (fun w' h => exMid rfl (rangeAt_below RY.out h hbl.out) underVid rfl infoVid) B_20.out ?_
              simp only [Act.put, List.setIfInBounds_toArray, List.set_cons_zero, List.set_cons_succ]
              refine wpAnyH_all (rs := [22]) (by kernel_rfl) (by simp) ?_
              intro i hi
              simp only [List.mem_cons, List.not_mem_nil, or_false] at hi
              subst hi
              refine wpOp_of rfl rfl (wp_called (args := #[.pointer (some ⟨g, 0, none⟩), .agg (encV y).toArray]) hc4 (by simp only [List.map_toArray, List.map_cons, List.map_nil]; rfl) (HS1.out w_18 B_20.out) ?_)
              rintro e w_23 ⟨_, rfl, o_25, h_24⟩
              obtain ⟨A_26, c_27, rfl, _, p_28⟩ := EdgesAt.of_own o_25 hne.out.symm
              have P_29 := Lib.hid p_28
              refine ⟨_, rfl, ext_trans B_20.out h_24, ?_⟩
              simp only [Act.put, List.setIfInBounds_toArray, List.set_cons_zero, List.set_cons_succ]
              have B_30 := Lib.hid (ext_trans B_20.out h_24)
              have F_31 := Lib.hid (F_21.out.ext h_24)
              have F_32 := Lib.hid (F_22.out.ext h_24)
              clear B_20 F_21 F_22
              clear o_25 h_24 p_28
              refine wpAnyH_all (rs := [28]) (by kernel_rfl) (by simp) ?_
              intro i hi
              simp only [List.mem_cons, List.not_mem_nil, or_false] at hi
              subst hi
              refine wpOp_of rfl rfl (wp_called (args := #[.agg #[.slice Ax L.length cx], .agg (encV y).toArray]) hc5 (by simp only [List.map_toArray, List.map_cons, List.map_nil]; rfl) (HS2.out w_23 B_30.out) ?_)
              rintro e w_33 ⟨_, rfl, o_35, h_34⟩
              obtain ⟨A_36, c_37, rfl, _, p_38⟩ := EdgesAt.of_own o_35 hne.out.symm
              have P_39 := Lib.hid p_38
              refine ⟨_, rfl, ext_trans B_30.out h_34, ?_⟩
              simp only [Act.put, List.setIfInBounds_toArray, List.set_cons_zero, List.set_cons_succ]
              have B_40 := Lib.hid (ext_trans B_30.out h_34)
              have F_41 := Lib.hid (F_31.out.ext h_34)
              have F_42 := Lib.hid (F_32.out.ext h_34)
              have F_43 := Lib.hid (P_29.out.ext h_34)
              clear B_30 F_31 F_32 P_29
              clear o_35 h_34 p_38
              refine wpAnyH_all (rs := [29]) (by kernel_rfl) (by simp) ?_
              intro i hi
              simp only [List.mem_cons, List.not_mem_nil, or_false] at hi
              subst hi
              refine wpOp_of rfl rfl (wp_called (args := #[.slice A_26 ne c_27, .slice A_36 ne c_37]) hc6 (by simp only [List.map_toArray, List.map_cons, List.map_nil]; rfl) ((HQE.out w_33 _ _ _ _ F_43.out P_39.out).mono fun _ _ => RetB.ofD) ?_)
              rintro e w_44 ⟨rfl, h_45⟩
              refine ⟨_, rfl, ext_trans B_40.out h_45, ?_⟩
              simp only [Act.put, List.setIfInBounds_toArray, List.set_cons_zero, List.set_cons_succ]
              have B_46 := Lib.hid (ext_trans B_40.out h_45)
              have F_47 := Lib.hid (F_41.out.ext h_45)
              have F_48 := Lib.hid (F_42.out.ext h_45)
              have F_49 := Lib.hid (F_43.out.ext h_45)
              have F_50 := Lib.hid (P_39.out.ext h_45)
              clear B_40 F_41 F_42 F_43 P_39
              clear h_45
              refine takeV (i := 30) (d := 99) (v := .bool false) rfl (by kernel_rfl) (by kernel_rfl) (by kernel_rfl) (fun _ _ _ h => h) rfl (fun _ _ => exNotQ (b := true) rfl) B_46.out ?_
              simp only [Act.put, List.setIfInBounds_toArray, List.set_cons_zero, List.set_cons_succ]
              refine takeV (i := 31) (d := 100) (v := .bool false) rfl (by kernel_rfl) (by kernel_rfl) (by kernel_rfl) (fun _ _ _ h => h) rfl (fun _ _ => exPickFQ (v := .bool false) rfl rfl) B_46.out ?_
              simp only [Act.put, List.setIfInBounds_toArray, List.set_cons_zero, List.set_cons_succ]
              refine wpAnyH_done (by kernel_rfl) ?_ _
              have BF := Lib.hid (BI.out.trans (B_46.out.mono BI.out.size))
              clear B_46 F_47 F_48 F_49 F_50
              go_wp2_with fail
              go_roundw
              case rel => exact ⟨k + 1, by omega, by go_num, BF.out⟩
              case measure => simp [intOf]; omega
            · have hlk : ¬ (k : Int) < (m : Int) := by omega
              have BF := Lib.hid (BS.out.trans (BI0.out.mono BS.out.size))
              go_wp2_with fail
              refine (works20 _).mono ?_
              rintro e w8 ⟨rfl, b8⟩
              have B8 := Lib.hid (BF.out.trans (b8.mono BF.out.size))
              clear b8
              go_wp2
              go_ret
              exact ⟨rfl, B8.out⟩
end Go.Proofs.YtfnhmbflmifhcaaGreat
