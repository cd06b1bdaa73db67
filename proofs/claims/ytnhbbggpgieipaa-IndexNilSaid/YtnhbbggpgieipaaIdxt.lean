/- An index: a patch by its name, its lists in blocks of their own that may be written: walked. -/
import Derived.Test.YtnhbbggpgieipaaIdxs
namespace Go.Proofs.Ytnhbbggpgieipaa
open Go.RowKit

def RetGetN (w : World) (q : PatV) (b : Bool) (e : Ending) (w' : World) : Prop := ∃ cs : List Value, e = .returned (.tuple #[.agg cs.toArray, .bool b]) ∧ PatIn w' (fun k => w.heap.size ≤ k ∧ k < w'.heap.size ∧ NFr w' k) cs q ∧ Below w.heap.size w w'
set_option maxRecDepth 100000 in
set_option maxHeartbeats 2000000 in
theorem get31N_any {w : World} {F : Nat → Prop} {g : Nat} {L : List PatV} (hI : IdxAt w F g L) (d : PidV) :
    Calls Try.prog 24 #[.pointer (some ⟨g, 0, none⟩), .agg (encP d).toArray] w (RetGetN w (getV L d) (findP L d).isSome) := by
  have HI := Lib.hid hI
  have K1 : Hid (Blk ((w.alloc (.cells (encP d).toArray 41)).alloc (.cells #[.int .u8 0, .int .u16 0, .slice none 0 0, .slice none 0 0] 45)) w.heap.size 41 (encP d).toArray) := (Blk.new _ _ _).alloc _
  have K2 : Hid (Blk ((w.alloc (.cells (encP d).toArray 41)).alloc (.cells #[.int .u8 0, .int .u16 0, .slice none 0 0, .slice none 0 0] 45)) (w.heap.size + 1) 45 #[.int .u8 0, .int .u16 0, .slice none 0 0, .slice none 0 0]) := Blk.newAt (by simp) _ _
  have B0 : Hid (Below w.heap.size w ((w.alloc (.cells (encP d).toArray 41)).alloc (.cells #[.int .u8 0, .int .u16 0, .slice none 0 0, .slice none 0 0] 45))) := ((Below.refl _ _).alloc (Nat.le_refl _) _).alloc (by simp) _
  have hgr : Hid (w.heap.size ≤ w.heap.size + 1) := Nat.le_succ _
  clear hI
  go_enter Try.func24, Try.ntmps24
  go_upto_region 3 with fail
  generalize ((w.alloc (.cells (encP d).toArray 41)).alloc (.cells #[.int .u8 0, .int .u16 0, .slice none 0 0, .slice none 0 0] 45)) = w2 at *
  generalize w.heap.size + 1 = gr at *
  have HI := Lib.hid (HI.out.ext B0.out)
  obtain ⟨A, c, gm, IC⟩ := HI.out.cells
  have c65 := IC.m
  obtain ⟨kl, hkl⟩ := kKeyP d
  obtain ⟨v, ok, hv, hrun⟩ := IC.map.look_ok kLawI kMapI kZeroInt hkl
  have hrun := Lib.hid hrun
  have gml := Lib.hid IC.map.lt
  clear hkl
  have HR : Hid (∀ w', (∃ z : Ext w2, w' = z.w) → (Instr.lookup 87 (.map (some gm)) (.agg (encP d).toArray) true).run Try.prog w' = .ok (.tuple #[v, .bool ok]) w') := by
    rintro _ ⟨z, rfl⟩
    exact hrun.out _ (z.h.block gm gml.out)
  clear hrun
  rcases hv with ⟨rfl, hno, rfl⟩ | ⟨rfl, hyes⟩
  · have FN : Hid (findP L d = none) := findP_none.2 (idxM_none hno)
    clear hno IC
    refine wp_region_ext mixedS (by kernel_rfl) ?_
    repeat (first
      | (refine wpQuiet_load_row K1.out underPid rfl infoPid rfl rfl ?_; simp only [List.set_cons_succ, List.set_cons_zero])
      | (refine wpQuiet_look HR.out rfl rfl rfl ?_; simp only [List.set_cons_succ, List.set_cons_zero])
      | go_big_quiet_step (fail))
    refine wpQuiet_nil ?_
    rintro _ ⟨z, rfl⟩
    have B3 := Lib.hid (B0.out.trans (z.h.mono B0.out.size))
    have K3 := Lib.hid (K2.out.ext z.h)
    generalize z.w = w3 at *
    clear c65 K1 K2 HR HI B0 gml
    go_wp2_with (first
      | (refine wpList_built (buildPatZ _) (by rfl) ?_)
      | (refine wpList_store_row rfl 45 _ _ (by rfl) gr #[.int .u8 0, .int .u16 0, .slice none 0 0, .slice none 0 0] (by rfl) (by rfl) _ _ K3.out infoPat rfl zeroC_one ?_))
    refine bodyPost_ret (results_row_tmp rfl _ _ gr _ #[.int .u8 0, .int .u16 0, .slice none 0 0, .slice none 0 0] _ rfl (K3.out.row _) underPat rfl infoPat) rfl ?_
    refine ⟨[.int .u8 0, .int .u16 0, .slice none 0 0, .slice none 0 0], ?_, ?_, below_setRow B3.out hgr.out _⟩
    · rw [FN.out]; rfl
    · rw [getV_none FN.out]; exact zeroCells_in _ _
  · obtain ⟨i, p, hi, rfl, rfl⟩ := idxM_key hyes
    have FS : Hid (findP L p.1 = some p) := HI.out.ok.find hi
    have hil : i < L.length := (List.getElem?_eq_some_iff.1 hi).1
    have hil' : (i : Int) < (L.length : Int) := by omega
    have hi0 : (0 : Int) ≤ (i : Int) := by omega
    obtain ⟨b, o, q, r, rfl, hb, hq, pa, R⟩ := IC.pats.pat_ hil
    obtain rfl : p = q := by rw [hi] at hq; exact Option.some.inj hq
    have GL := Lib.hid (patB_len (HI.out.ok.good p (List.mem_of_getElem? hi)))
    have PA := Lib.hid pa
    have R := Lib.hid R
    have hb := Lib.hid hb
    have c64 := IC.s
    obtain ⟨⟨A1, c1, A2, c2, rfl, _, _, _, _⟩, _, _⟩ := PA.out
    clear pa hyes hq hi IC
    refine wp_region_ext mixedS (by kernel_rfl) ?_
    repeat (first
      | (refine wpQuiet_load_row K1.out underPid rfl infoPid rfl rfl ?_; simp only [List.set_cons_succ, List.set_cons_zero])
      | (refine wpQuiet_look HR.out rfl rfl rfl ?_; simp only [List.set_cons_succ, List.set_cons_zero])
      | go_big_quiet_step (fail))
    refine wpQuiet_nil ?_
    rintro _ ⟨z, rfl⟩
    have z64 := c64 z
    have B3 := Lib.hid (B0.out.trans (z.h.mono B0.out.size))
    have K3 := Lib.hid (K2.out.ext z.h)
    have PA3 := Lib.hid (PA.out.ext z.h)
    have R3 := Lib.hid (rangeAt_ext R.out hb.out z.w ⟨z, rfl⟩)
    generalize z.w = w3 at *
    clear c65 c64 K1 K2 HR HI B0 gml PA R
    have HC := Lib.hid (copy18_any p w3 _ PA3.out.at_ (by have := GL.out.1; omega) (by have := GL.out.2; omega))
    go_wp2_with (refine wpList_load_mid rfl 45 _ (by rfl) b (o + i * 4) (by rfl) _ _ R3.out underPat rfl infoPat ?_)
    refine HC.out.mono ?_
    rintro e w4 ⟨A3, c3, A4, c4, rfl, o1, o2, b4⟩
    have PN := Lib.hid (PatIn.of_copyN o1 o2 PA3.out.at_.oks PA3.out.len1 PA3.out.len2)
    have B4 := Lib.hid (B3.out.trans (b4.mono B3.out.size))
    have K4 := Lib.hid (K3.out.ext b4)
    have hgl : Hid (gr < w3.heap.size) := K3.out.lt
    have h34 := Lib.hid b4.size
    have hw3 := Lib.hid B3.out.size
    clear o1 o2 b4 HC B3 R3 K3
    go_wp2_with (refine wpList_store_row rfl 45 _ _ (by rfl) gr (patC p.1 A3 p.2.1.length c3 A4 p.2.2.length c4).toArray (by rfl) (by rfl) _ _ K4.out infoPat rfl patC_one ?_)
    refine bodyPost_ret (results_row_tmp rfl _ _ gr _ (patC p.1 A3 p.2.1.length c3 A4 p.2.2.length c4).toArray _ rfl (K4.out.row _) underPat rfl infoPat) rfl ?_
    refine ⟨patC p.1 A3 p.2.1.length c3 A4 p.2.2.length c4, ?_, ?_, below_setRow B4.out hgr.out _⟩
    · rw [FS.out]; rfl
    · rw [getV_some FS.out]
      refine (PN.out.stay (w' := w4.setRow gr (patC p.1 A3 p.2.1.length c3 A4 p.2.2.length c4).toArray) ⟨by simp, fun k hk hg => setRow_other _ _ _ _ ?_⟩).mono fun k hk => ⟨?_, ?_, ?_⟩
      · have := hg.1; have := hgl.out; omega
      · have := hk.1; have := hw3.out; omega
      · have := hk.2.1; simpa using this
      · exact hk.2.2.keep (setRow_other _ _ _ _ (by have := hk.1; have := hgl.out; omega))
end Go.Proofs.Ytnhbbggpgieipaa
