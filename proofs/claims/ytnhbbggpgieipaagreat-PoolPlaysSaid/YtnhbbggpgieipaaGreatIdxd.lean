/- An index: a patch by its name, those that a vector has not, all: walked. -/
import Derived.Test.YtnhbbggpgieipaaGreatIdxc
namespace Go.Proofs.YtnhbbggpgieipaaGreat
open Go.RowKit

theorem zeroCells_in (w : World) (G : Nat → Prop) : PatIn w G [.int .u8 0, .int .u16 0, .slice none 0 0, .slice none 0 0] zeroPat :=
  ⟨⟨none, 0, none, 0, rfl, ⟨rfl, rfl, fun h => absurd h (by simp [zeroPat])⟩, ⟨rfl, ⟨rfl, fun h => absurd h (by simp [zeroPat])⟩, by simp [zeroPat]⟩, fun h => absurd h (by simp [zeroPat]), fun h => absurd h (by simp [zeroPat])⟩, by simp [zeroPat], by simp [zeroPat]⟩
def getV (L : List PatV) (d : PidV) : PatV := (findP L d).getD zeroPat
/-- a patch is handed back, and whether it is there: its lists are new -/
def RetGet (w : World) (q : PatV) (b : Bool) (e : Ending) (w' : World) : Prop := ∃ cs : List Value, e = .returned (.tuple #[.agg cs.toArray, .bool b]) ∧ PatIn w' (fun k => w.heap.size ≤ k ∧ k < w'.heap.size) cs q ∧ Below w.heap.size w w'
def RetC (w : World) (l : List PatV) (e : Ending) (w' : World) : Prop := ∃ s, e = .returned s ∧ OwnC w.heap.size w' s l ∧ Below w.heap.size w w'

set_option maxRecDepth 100000 in
set_option maxHeartbeats 2000000 in
theorem lack31_any {w : World} {F : Nat → Prop} {g : Nat} {L : List PatV} (hI : IdxAt w F g L) (hn : L.length ≤ 100000) (v : List Int) (hv : VecOk v) :
    Calls Tryz.prog 58 #[.pointer (some ⟨g, 0, none⟩), .agg (vecA v)] w (RetC w (lackP v L)) := by
  have HI := Lib.hid hI
  have HV := Lib.hid (fun (d : PidV) (u : World) => has_any v hv d.1.val d.1.isLt ((d.2.val : Nat) : Int) u)
  have hs1 : Hid ((vecA v).size = 64) := by rw [Hid, vecA_size]; exact hv.len
  have K1 : Hid (Blk (w.alloc (.cells (vecA v) 39)) w.heap.size 39 (vecA v)) := Blk.new _ _ _
  have B0 : Hid (Below w.heap.size w (w.alloc (.cells (vecA v) 39))) := below_new _ _
  clear hI hv
  go_enter Tryz.func58, Tryz.ntmps58
  go_upto_region 2 with fail
  generalize (w.alloc (.cells (vecA v) 39)) = w2 at *
  have HI := Lib.hid (HI.out.ext B0.out)
  generalize w.heap.size = g0 at K1 ⊢
  have hgl : Hid (g0 < w2.heap.size) := K1.out.lt
  go_wp2_with fail
  refine (len31_any HI.out).mono ?_
  rintro e w3 ⟨rfl, rfl⟩
  have BS := Lib.hid (Below.refl w2.heap.size w2)
  go_wp2_with fail
  go_loopw [9, 5] (fun i s wr => ∃ k : Nat, k ≤ L.length ∧ i = .int .i64 k ∧ Hid (OwnC w2.heap.size wr s (lackP v (L.take k))) ∧ Hid (Below w2.heap.size w2 wr)) (fun i _ _ => L.length - (intOf i).toNat)
  case atStart => exact ⟨0, by omega, rfl, OwnC.nil _ _, BS.out⟩
  case round =>
    clear BS
    obtain ⟨k, hk, rfl, O, B⟩ := hrel
    have hk0 : (0 : Int) ≤ (k : Int) := by omega
    by_cases hlt : k < L.length
    · have hlk : (k : Int) < (L.length : Int) := by omega
      obtain ⟨A, c, gm, IC⟩ := (HI.out.ext B.out).cells
      obtain ⟨b, o, p, r, rfl, hb, hp, pa, R⟩ := IC.pats.pat_ hlt
      have c64 := IC.s
      have PA := Lib.hid pa
      have GL := Lib.hid (patB_len (HI.out.ok.good p (List.mem_of_getElem? hp)))
      have KB := Lib.hid (K1.out.below B.out hgl.out)
      have R := Lib.hid R
      obtain ⟨⟨A1, c1, A2, c2, rfl, _, _, _, _⟩, _, _⟩ := PA.out
      have RP := Lib.hid (pid_range R.out)
      have HP := Lib.hid (HV.out p.1)
      have hOB : Hid (w2.heap.size ≤ wr.heap.size) := B.out.size
      clear pa IC
      cases hh : hasP v p.1
      · have N : Hid (lackP v (L.take (k + 1)) = lackP v (L.take k) ++ [p]) := by rw [Hid, lackP_snoc hp, if_neg (by simp [hh])]
        have hh' : hasV v p.1.1.val ((p.1.2.val : Nat) : Int) = false := hh
        rw [hh'] at HP
        clear hh hh' hp
        go_wp2_with fail
        refine wp_region_ext mixedS (by kernel_rfl) ?_
        repeat (first
          | (refine wpQuiet_load_row KB.out under64 rfl (by rw [hs1.out]; exact info64) rfl rfl ?_; simp only [List.set_cons_succ, List.set_cons_zero])
          | (refine wpQuiet_load_mid (rangeAt_ext RP.out hb) underPid rfl infoPid rfl rfl ?_; simp only [List.set_cons_succ, List.set_cons_zero])
          | go_big_quiet_step ((go_at_call 47; exact ext_call (HP.out _))))
        refine wpQuiet_nil ?_
        rintro _ ⟨z, rfl⟩
        have z64 := c64 z
        have B3 := Lib.hid (B.out.trans (z.h.mono B.out.size))
        have O3 := Lib.hid (O.out.ext z.h)
        have PA3 := Lib.hid (PA.out.ext z.h)
        have R3 := Lib.hid (rangeAt_ext R.out hb z.w ⟨z, rfl⟩)
        have hOB3 : Hid (w2.heap.size ≤ z.w.heap.size) := Nat.le_trans hOB.out z.h.size
        have hb3 : Hid (b < z.w.heap.size) := Nat.lt_of_lt_of_le hb z.h.size
        generalize z.w = w3 at *
        clear c64 O PA R RP HP KB B hOB
        have HC := Lib.hid (copy18_any p w3 _ PA3.out.at_ (by have := GL.out.1; omega) (by have := GL.out.2; omega))
        go_wp2_with (refine wpList_load_mid rfl 37 _ (by rfl) b (o + k * 4) (by rfl) _ _ R3.out underPat rfl infoPat ?_)
        refine HC.out.mono ?_
        rintro e w4 ⟨A3, c3, A4, c4, rfl, o1, o2, b4⟩
        have PN := Lib.hid (PatIn.of_copy o1 o2 PA3.out.at_.oks PA3.out.len1 PA3.out.len2)
        have O4 := O3.out.ext b4
        have B4 := Lib.hid (B3.out.trans (b4.mono B3.out.size))
        have hOB4 : Hid (w2.heap.size ≤ w4.heap.size) := Nat.le_trans hOB3.out b4.size
        obtain ⟨rows, D, own, RI, HD⟩ := O4
        have hsl : Hid (∀ k, u5.ownBlock = some k → k < w3.heap.size) := fun k e => by
          obtain ⟨_, _, ow, _⟩ := O3.out
          exact (ow.lt k e).2
        have own := Lib.hid own
        have RI := Lib.hid RI
        have HD := Lib.hid HD
        have hle : Hid ((lackP v (L.take k)).length ≤ 100000) := Nat.le_trans (List.length_filter_le _ _) (by rw [List.length_take]; omega)
        clear o1 o2 b4 HC O3 B3 R3
        go_wp2_with (first
          | (refine wpList_lit1 patSl PN.out.len4 (by omega) (by rfl) ?_)
          | (at_builtin; refine wpList_pushF patSl own.out (patC p.1 A3 p.2.1.length c3 A4 p.2.2.length c4) PN.out.len4 PN.out.one hOB4.out (by have := hle.out; omega) (by have := hle.out; unfold maxLen; omega) (by rfl) (by rfl) (by rfl) ?_; intro v5 w5 own5 kep5 new5))
        have O5 := Lib.hid (OwnC.push own5 kep5 new5 RI.out HD.out PN.out hOB3.out hsl.out)
        rw [← N.out] at O5
        have B5 := Lib.hid (B4.out.trans ((kep5.below (B := w2.heap.size) (fun k e => (own.out.lt k e).1) B4.out.size)))
        clear own5 kep5 new5
        go_roundw
        case rel => exact ⟨k + 1, by omega, by go_num, O5.out, B5.out⟩
        case measure => simp [intOf]; omega
      · have N : Hid (lackP v (L.take (k + 1)) = lackP v (L.take k)) := by rw [Hid, lackP_snoc hp, if_pos hh]
        have hh' : hasV v p.1.1.val ((p.1.2.val : Nat) : Int) = true := hh
        rw [hh'] at HP
        clear hh hh' hp
        go_wp2_with fail
        refine wp_region_ext mixedS (by kernel_rfl) ?_
        repeat (first
          | (refine wpQuiet_load_row KB.out under64 rfl (by rw [hs1.out]; exact info64) rfl rfl ?_; simp only [List.set_cons_succ, List.set_cons_zero])
          | (refine wpQuiet_load_mid (rangeAt_ext RP.out hb) underPid rfl infoPid rfl rfl ?_; simp only [List.set_cons_succ, List.set_cons_zero])
          | go_big_quiet_step ((go_at_call 47; exact ext_call (HP.out _))))
        refine wpQuiet_nil ?_
        rintro _ ⟨z, rfl⟩
        have B3 := Lib.hid (B.out.trans (z.h.mono B.out.size))
        have O3 := Lib.hid (O.out.ext z.h)
        rw [← N.out] at O3
        generalize z.w = w3 at *
        clear c64 O PA R RP HP KB B hOB
        go_wp2_with fail
        go_roundw
        case rel => exact ⟨k + 1, by omega, by go_num, O3.out, B3.out⟩
        case measure => simp [intOf]; omega
    · have hk' : k = L.length := by omega
      subst hk'
      rw [List.take_length] at O
      obtain ⟨A, c, rfl, _⟩ := O.out.slice
      go_wp2
      go_ret
      exact ⟨_, rfl, O.out.mono B0.out.size, B0.out.trans (B.out.mono B0.out.size)⟩

theorem buildVec0 (w : World) : (Instr.build 39 #[]).run Tryz.prog w = .ok (.agg (vecA vec0)) w := by kernel_rfl
set_option maxRecDepth 100000 in
set_option maxHeartbeats 2000000 in
theorem all31_any {w : World} {F : Nat → Prop} {g : Nat} {L : List PatV} (hI : IdxAt w F g L) (hn : L.length ≤ 100000) :
    Calls Tryz.prog 29 #[.pointer (some ⟨g, 0, none⟩)] w (RetC w L) := by
  have HL := Lib.hid (lack31_any hI hn vec0 vec0_ok)
  rw [lackP_vec0] at HL
  clear hI
  go_enter Tryz.func29, Tryz.ntmps29
  go_wp2_with (refine wpList_built (buildVec0 _) (by rfl) ?_)
  refine HL.out.mono ?_
  rintro e w3 ⟨s, rfl, O, b3⟩
  have O := Lib.hid O
  have b3 := Lib.hid b3
  go_wp2
  go_ret
  exact ⟨_, rfl, O.out, b3.out⟩

theorem makeI (w : World) : (Instr.makeMap 92 none).run Tryz.prog w = .ok (.map (some w.heap.size)) (w.alloc (.map #[] 0)) := by kernel_rfl
theorem buildI (gm : Nat) (w : World) : (Instr.build 94 #[(2, .map (some gm))]).run Tryz.prog w = .ok (.agg (idxC vec0 (.slice none 0 0) gm)) w := by kernel_rfl
/-- a new index is handed back -/
def RetNew (w : World) (e : Ending) (w' : World) : Prop := ∃ g, e = .returned (.pointer (some ⟨g, 0, none⟩)) ∧ IdxAt w' (fun k => w.heap.size ≤ k ∧ k < w'.heap.size) g [] ∧ Below w.heap.size w w'
set_option maxRecDepth 100000 in
set_option maxHeartbeats 2000000 in
theorem new31_any (w : World) : Calls Tryz.prog 26 #[] w (RetNew w) := by
  have M0 : Hid (MapIs Tryz.prog 33 (w.alloc (.map #[] 0)) w.heap.size []) := MapIs.made _ _ _
  have E : Hid (IdxAt ((w.alloc (.map #[] 0)).alloc (.cells (idxC vec0 (.slice none 0 0) w.heap.size) 94)) (fun k => w.heap.size ≤ k ∧ k < ((w.alloc (.map #[] 0)).alloc (.cells (idxC vec0 (.slice none 0 0) w.heap.size) 94)).heap.size) (w.heap.size + 1) []) :=
    ⟨.nil, fun k h => h.2, by simp, .slice none 0 0, w.heap.size, [], fun _ => False, Blk.newAt (by simp) _ _, (by simp; omega), M0.out.alloc _, World.ownsRow_nil _ _ _ _, (fun k e => by cases e), RowsIn.nil _ _, fun _ h => False.elim h⟩
  have B : Hid (Below w.heap.size w ((w.alloc (.map #[] 0)).alloc (.cells (idxC vec0 (.slice none 0 0) w.heap.size) 94))) := ((Below.refl _ _).alloc (Nat.le_refl _) _).alloc (by simp) _
  have hmk := makeI
  go_enter Tryz.func26, Tryz.ntmps26
  go_wp2_with (refine wpList_built (buildI _ _) (by rfl) ?_)
  go_ret
  exact ⟨_, rfl, E.out, B.out⟩

theorem getV_none {L : List PatV} {d : PidV} (h : findP L d = none) : getV L d = zeroPat := by unfold getV; rw [h]; rfl
theorem getV_some {L : List PatV} {d : PidV} {p : PatV} (h : findP L d = some p) : getV L d = p := by unfold getV; rw [h]; rfl
theorem buildPatZ (w : World) : (Instr.build 37 #[]).run Tryz.prog w = .ok (.agg #[.int .u8 0, .int .u16 0, .slice none 0 0, .slice none 0 0]) w := by kernel_rfl
theorem kZeroInt (u : World) : (zeroValue 3).run Tryz.prog u = .ok (.int .i64 0) u := by kernel_rfl
set_option maxRecDepth 100000 in
set_option maxHeartbeats 2000000 in
theorem get31_any {w : World} {F : Nat → Prop} {g : Nat} {L : List PatV} (hI : IdxAt w F g L) (d : PidV) :
    Calls Tryz.prog 37 #[.pointer (some ⟨g, 0, none⟩), .agg (encP d).toArray] w (RetGet w (getV L d) (findP L d).isSome) := by
  have HI := Lib.hid hI
  have K1 : Hid (Blk ((w.alloc (.cells (encP d).toArray 33)).alloc (.cells #[.int .u8 0, .int .u16 0, .slice none 0 0, .slice none 0 0] 37)) w.heap.size 33 (encP d).toArray) := (Blk.new _ _ _).alloc _
  have K2 : Hid (Blk ((w.alloc (.cells (encP d).toArray 33)).alloc (.cells #[.int .u8 0, .int .u16 0, .slice none 0 0, .slice none 0 0] 37)) (w.heap.size + 1) 37 #[.int .u8 0, .int .u16 0, .slice none 0 0, .slice none 0 0]) := Blk.newAt (by simp) _ _
  have B0 : Hid (Below w.heap.size w ((w.alloc (.cells (encP d).toArray 33)).alloc (.cells #[.int .u8 0, .int .u16 0, .slice none 0 0, .slice none 0 0] 37))) := ((Below.refl _ _).alloc (Nat.le_refl _) _).alloc (by simp) _
  have hgr : Hid (w.heap.size ≤ w.heap.size + 1) := Nat.le_succ _
  clear hI
  go_enter Tryz.func37, Tryz.ntmps37
  go_upto_region 3 with fail
  generalize ((w.alloc (.cells (encP d).toArray 33)).alloc (.cells #[.int .u8 0, .int .u16 0, .slice none 0 0, .slice none 0 0] 37)) = w2 at *
  generalize w.heap.size + 1 = gr at *
  have HI := Lib.hid (HI.out.ext B0.out)
  obtain ⟨A, c, gm, IC⟩ := HI.out.cells
  have c65 := IC.m
  obtain ⟨kl, hkl⟩ := kKeyP d
  obtain ⟨v, ok, hv, hrun⟩ := IC.map.look_ok kLawI kMapI kZeroInt hkl
  have hrun := Lib.hid hrun
  have gml := Lib.hid IC.map.lt
  clear hkl
  have HR : Hid (∀ w', (∃ z : Ext w2, w' = z.w) → (Instr.lookup 92 (.map (some gm)) (.agg (encP d).toArray) true).run Tryz.prog w' = .ok (.tuple #[v, .bool ok]) w') := by
    rintro _ ⟨z, rfl⟩
    exact hrun.out _ (z.h.block gm gml.out)
  clear hrun
  rcases hv with ⟨rfl, hno, rfl⟩ | ⟨rfl, hyes⟩
  · have FN : Hid (findP L d = none) := findP_none.2 (idxM_none hno)
    clear hno IC
    refine wp_region_ext mixedS (by kernel_rfl) ?_
    repeat (first
      | (refine wpQuiet_load_row K1.out underPid rfl infoPid rfl rfl ?_; simp only [List.set_cons_succ, List.set_cons_zero])
      | (refine wpQuiet_look HR.out rfl rfl rfl ?_; simp only [List.set_cons_succ, List.set_cons_zero])
      | go_big_quiet_step (fail))
    refine wpQuiet_nil ?_
    rintro _ ⟨z, rfl⟩
    have B3 := Lib.hid (B0.out.trans (z.h.mono B0.out.size))
    have K3 := Lib.hid (K2.out.ext z.h)
    generalize z.w = w3 at *
    clear c65 K1 K2 HR HI B0 gml
    go_wp2_with (first
      | (refine wpList_built (buildPatZ _) (by rfl) ?_)
      | (refine wpList_store_row rfl 37 _ _ (by rfl) gr #[.int .u8 0, .int .u16 0, .slice none 0 0, .slice none 0 0] (by rfl) (by rfl) _ _ K3.out infoPat rfl zeroC_one ?_))
    refine bodyPost_ret (results_row_tmp rfl _ _ gr _ #[.int .u8 0, .int .u16 0, .slice none 0 0, .slice none 0 0] _ rfl (K3.out.row _) underPat rfl infoPat) rfl ?_
    refine ⟨[.int .u8 0, .int .u16 0, .slice none 0 0, .slice none 0 0], ?_, ?_, below_setRow B3.out hgr.out _⟩
    · rw [FN.out]; rfl
    · rw [getV_none FN.out]; exact zeroCells_in _ _
  · obtain ⟨i, p, hi, rfl, rfl⟩ := idxM_key hyes
    have FS : Hid (findP L p.1 = some p) := HI.out.ok.find hi
    have hil : i < L.length := (List.getElem?_eq_some_iff.1 hi).1
    have hil' : (i : Int) < (L.length : Int) := by omega
    have hi0 : (0 : Int) ≤ (i : Int) := by omega
    obtain ⟨b, o, q, r, rfl, hb, hq, pa, R⟩ := IC.pats.pat_ hil
    obtain rfl : p = q := by rw [hi] at hq; exact Option.some.inj hq
    have GL := Lib.hid (patB_len (HI.out.ok.good p (List.mem_of_getElem? hi)))
    have PA := Lib.hid pa
    have R := Lib.hid R
    have hb := Lib.hid hb
    have c64 := IC.s
    obtain ⟨⟨A1, c1, A2, c2, rfl, _, _, _, _⟩, _, _⟩ := PA.out
    clear pa hyes hq hi IC
    refine wp_region_ext mixedS (by kernel_rfl) ?_
    repeat (first
      | (refine wpQuiet_load_row K1.out underPid rfl infoPid rfl rfl ?_; simp only [List.set_cons_succ, List.set_cons_zero])
      | (refine wpQuiet_look HR.out rfl rfl rfl ?_; simp only [List.set_cons_succ, List.set_cons_zero])
      | go_big_quiet_step (fail))
    refine wpQuiet_nil ?_
    rintro _ ⟨z, rfl⟩
    have z64 := c64 z
    have B3 := Lib.hid (B0.out.trans (z.h.mono B0.out.size))
    have K3 := Lib.hid (K2.out.ext z.h)
    have PA3 := Lib.hid (PA.out.ext z.h)
    have R3 := Lib.hid (rangeAt_ext R.out hb.out z.w ⟨z, rfl⟩)
    generalize z.w = w3 at *
    clear c65 c64 K1 K2 HR HI B0 gml PA R
    have HC := Lib.hid (copy18_any p w3 _ PA3.out.at_ (by have := GL.out.1; omega) (by have := GL.out.2; omega))
    go_wp2_with (refine wpList_load_mid rfl 37 _ (by rfl) b (o + i * 4) (by rfl) _ _ R3.out underPat rfl infoPat ?_)
    refine HC.out.mono ?_
    rintro e w4 ⟨A3, c3, A4, c4, rfl, o1, o2, b4⟩
    have PN := Lib.hid (PatIn.of_copy o1 o2 PA3.out.at_.oks PA3.out.len1 PA3.out.len2)
    have B4 := Lib.hid (B3.out.trans (b4.mono B3.out.size))
    have K4 := Lib.hid (K3.out.ext b4)
    have hgl : Hid (gr < w3.heap.size) := K3.out.lt
    have h34 := Lib.hid b4.size
    have hw3 := Lib.hid B3.out.size
    clear o1 o2 b4 HC B3 R3 K3
    go_wp2_with (refine wpList_store_row rfl 37 _ _ (by rfl) gr (patC p.1 A3 p.2.1.length c3 A4 p.2.2.length c4).toArray (by rfl) (by rfl) _ _ K4.out infoPat rfl patC_one ?_)
    refine bodyPost_ret (results_row_tmp rfl _ _ gr _ (patC p.1 A3 p.2.1.length c3 A4 p.2.2.length c4).toArray _ rfl (K4.out.row _) underPat rfl infoPat) rfl ?_
    refine ⟨patC p.1 A3 p.2.1.length c3 A4 p.2.2.length c4, ?_, ?_, below_setRow B4.out hgr.out _⟩
    · rw [FS.out]; rfl
    · rw [getV_some FS.out]
      refine (PN.out.stay (w' := w4.setRow gr (patC p.1 A3 p.2.1.length c3 A4 p.2.2.length c4).toArray) ⟨by simp, fun k hk hg => setRow_other _ _ _ _ ?_⟩).mono fun k hk => ⟨?_, ?_⟩
      · have := hg.1; have := hgl.out; omega
      · have := hk.1; have := hw3.out; omega
      · have := hk.2; simpa using this
end Go.Proofs.YtnhbbggpgieipaaGreat
