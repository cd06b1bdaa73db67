/- Texts of general use, one behind another. -/
import Derived.Test.YtihggkmjalofiaaGreatDoorIdxw
import Derived.Test.YtihggkmjalofiaaGreatDoorVecs
import Derived.Deep.DeepCutAuto
import Derived.Test.YtihggkmjalofiaaGreatDoorGen
import Derived.Maps.Range

/- An index: a patch that is put: walked. -/
namespace Go.Proofs.YtihggkmjalofiaaGreatDoor
open Go.RowKit
open Go.ChangeMaps (setBlock)

def PutRet (w : World) (F : Nat → Prop) (g : Nat) (L : List PatV) (p : PatV) (e : Ending) (w' : World) : Prop :=
  e = .returned (.int .i64 ((idxE L p : Nat) : Int)) ∧ Kept F w w' ∧ ∃ F', IdxAt w' F' g (idxL L p) ∧ ∀ k, F' k → F k ∨ w.heap.size ≤ k
theorem putRet_no {w w' : World} {F : Nat → Prop} {g : Nat} {L : List PatV} {p : PatV} {n : Nat} (hI : IdxAt w F g L) (hb : Below w.heap.size w w') (he : idxE L p = n) (h0 : n ≠ 0) : PutRet w F g L p (.returned (.int .i64 ((n : Nat) : Int))) w' := by
  refine ⟨by rw [he], Kept.of_below hb, F, ?_, fun k h => .inl h⟩
  unfold idxL
  rw [if_neg (by rw [he]; exact h0)]
  exact hI.ext hb
theorem allocPI (w : World) : (Instr.alloc 27 true (.tuple #[])).run Tryz.prog w = .ok (.pointer (some ⟨w.heap.size, 0, none⟩)) (w.alloc (.cells #[.int .u8 0, .int .u16 0] 27)) := by kernel_rfl
theorem idxE_1 {L : List PatV} {p : PatV} (h : patB p = false) : idxE L p = 1 := by unfold idxE; rw [h]; rfl
theorem idxE_7 {L : List PatV} {p q : PatV} (h : patB p = true) (hf : findP L p.1 = some q) (e : q = p) : idxE L p = 7 := by unfold idxE; rw [if_pos h, hf]; simp only; rw [if_pos e.symm]
theorem idxE_8 {L : List PatV} {p q : PatV} (h : patB p = true) (hf : findP L p.1 = some q) (e : q ≠ p) : idxE L p = 8 := by unfold idxE; rw [if_pos h, hf]; simp only; rw [if_neg (Ne.symm e)]
theorem idxE_9 {L : List PatV} {p : PatV} (h : patB p = true) (hf : findP L p.1 = none) (e : (p.2.1.all (hasP (vecL L)) && putB (vecL L) p.1) = false) : idxE L p = 9 := by unfold idxE; rw [if_pos h, hf]; simp only; rw [e]; rfl
theorem info64' {v : List Int} (hv : VecOk v) : (Tryz.prog.info? 75).map (·.size) = some (v.map (Value.int .u16)).length := by rw [List.length_map, hv.len]; exact info64
theorem fieldIdx0 (g : Nat) (w : World) : (Instr.fieldAt 169 (.pointer (some ⟨g, 0, none⟩)) 0).run Tryz.prog w = .ok (.pointer (some ⟨g, 0, none⟩)) w := by simp [go_sem]
theorem fieldIdx1 (g : Nat) (w : World) : (Instr.fieldAt 169 (.pointer (some ⟨g, 0, none⟩)) 1).run Tryz.prog w = .ok (.pointer (some ⟨g, 64, none⟩)) w := by simp [go_sem]
theorem fieldPat0 (g : Nat) (w : World) : (Instr.fieldAt 31 (.pointer (some ⟨g, 0, none⟩)) 0).run Tryz.prog w = .ok (.pointer (some ⟨g, 0, none⟩)) w := by simp [go_sem]
theorem loadPats (b o : Nat) (w : World) (A : Option Addr) (n c : Nat) (h : w.cell? ⟨b, o, none⟩ = some (.slice A n c)) : (Instr.loadAt 22 (.pointer (some ⟨b, o, none⟩))).run Tryz.prog w = .ok (.slice A n c) w := by simp [go_sem, h]
theorem storePats (b o : Nat) (w : World) (A : Option Addr) (n c : Nat) {u : Value} (h : w.cell? ⟨b, o, none⟩ = some u) (hf : w.frozen? ⟨b, o, none⟩ = false) : (Instr.storeAt 22 (.pointer (some ⟨b, o, none⟩)) (.slice A n c)).run Tryz.prog w = .ok () (w.setCell ⟨b, o, none⟩ (.slice A n c)) := by simp [go_sem, h, hf]
theorem there_idx {w : World} {g gm : Nat} {t : TypeId} {v v' : List Int} {s : Value} (hv : VecOk v) (hv' : VecOk v') (h : Blk w g t (idxC v s gm)) : w.there g 0 (vecA v').size := fun j hj => by
  rw [vecA_size, hv'.len] at hj
  refine ⟨?_, by rw [Nat.zero_add]; exact h.fr j⟩
  rw [Nat.zero_add, h.cell j, Array.getElem?_eq_getElem (by rw [idxC_size hv]; omega)]; rfl
theorem idxE_0 {L : List PatV} {p : PatV} (h : patB p = true) (hf : findP L p.1 = none) (e : (p.2.1.all (hasP (vecL L)) && putB (vecL L) p.1) = true) : idxE L p = 0 := by unfold idxE; rw [if_pos h, hf]; simp only; rw [e]; rfl
theorem blk_vec {w : World} {g : Nat} {t : TypeId} {v : List Int} (h : Blk w g t (vecA v)) : w.rangeAt g 0 (v.map (Value.int .u16)) := by
  intro j u hj
  rw [Nat.zero_add, h.cell j]
  unfold vecA
  simpa using hj
theorem blk_pat {w : World} {g : Nat} {t : TypeId} {cs : List Value} (h : Blk w g t cs.toArray) : w.rangeAt g 0 cs := by
  intro j u hj
  rw [Nat.zero_add, h.cell j]
  simpa using hj
/-- a slice of cells is in no map's block -/
theorem Sl.setBlock {P : Program} {kt : TypeId} {l : List (Value × Value)} {w : World} {size n gm : Nat} {A : Option Addr} {xs : List Value} (h : Sl w w.heap.size size A n xs) (hpos : 0 < size) (hm : MapIs P kt w gm l) (o : Obj) : Sl (Go.ChangeMaps.setBlock w gm o) (Go.ChangeMaps.setBlock w gm o).heap.size size A n xs :=
  ⟨h.1, fun hn => by
    obtain ⟨b, off, e, hb, hc⟩ := h.2 hn
    have hmul : 0 < n * size := Nat.mul_pos hn hpos
    have hne : b ≠ gm := by
      rintro rfl
      obtain ⟨es, clock, hh, _⟩ := hm
      have := hc 0 hmul
      rw [List.getElem?_eq_getElem (by rw [h.1]; exact hmul)] at this
      simp [World.cell?, hh] at this
    refine ⟨b, off, e, by simpa [Go.ChangeMaps.setBlock] using hb, fun j hj => ?_⟩
    exact (World.cell?_of_block (a := ⟨b, off + j, none⟩) (setBlock_other hne)).trans (hc j hj)⟩
theorem PatAt.setBlock {P : Program} {kt : TypeId} {l : List (Value × Value)} {w : World} {gm : Nat} {r : List Value} {p : PatV} (h : PatAt w r p) (hm : MapIs P kt w gm l) (o : Obj) : PatAt (Go.ChangeMaps.setBlock w gm o) r p := by
  obtain ⟨⟨A, c, A', c', e, h1, h2⟩, h3, h4⟩ := h
  exact ⟨⟨A, c, A', c', e, ⟨h1.len, h1.sl.setBlock (by omega) hm o⟩, ⟨h2.len, h2.sl.setBlock (by omega) hm o, h2.ok⟩⟩, h3, h4⟩
theorem idx_grown {w w8 w9 w10 w11 w13 : World} {F D : Nat → Prop} {g gm : Nat} {L : List PatV} {p : PatV} {s s' : Value} {rows : List (List Value)} {r : List Value}
    (hok : IdxOk (L ++ [p])) (hF : ∀ k, F k → k < w.heap.size) (hg : F g) (hgm : F gm) (hne : g ≠ gm) (hs : ∀ k, s.ownBlock = some k → F k ∧ k ≠ gm) (hD : ∀ k, D k → F k ∧ k ≠ g ∧ k ≠ gm ∧ s.ownBlock ≠ some k)
    (k8 : Kept F w w8) (M8 : MapIs Tryz.prog 27 w8 gm (idxM (L ++ [p]))) (R8 : RowsIn w8 D rows L) (b9 : w8.heap.size ≤ w9.heap.size) (b10 : Below w8.heap.size w8 w10) (P10 : PatIn w10 (fun k => w9.heap.size ≤ k ∧ k < w10.heap.size) r p)
    (o11 : w11.ownsRow 0 31 4 s' (L.length + 1) (rows.flatten ++ r)) (k11 : Kept (fun k => s.ownBlock = some k) w10 w11) (n11 : ∀ k, s'.ownBlock = some k → s.ownBlock = some k ∨ w10.heap.size ≤ k)
    (k13 : Kept (fun k => k = g) w11 w13) (B13 : Blk w13 g 169 (idxC (vecL (L ++ [p])) s' gm)) (og : ∀ k, s'.ownBlock = some k → k ≠ g) : Kept F w w13 ∧ IdxAt w13 (fun k => F k ∨ w.heap.size ≤ k ∧ k < w13.heap.size) g (L ++ [p]) := by
  have h8 := k8.size
  have h10 := b10.size
  have h11 := k11.size
  have h13 := k13.size
  have hg' := hF g hg
  have hm' := hF gm hgm
  have K : Kept F w w13 := ((k8.then b10).trans k11 fun x e => .inl (hs x e).1).trans k13 fun x e => .inl (by rw [e]; exact hg)
  refine ⟨K, hok, fun k e => e.elim (fun e => by have := hF k e; omega) (fun e => e.2), .inl hg, s', gm, rows ++ [r], fun k => D k ∨ w9.heap.size ≤ k ∧ k < w10.heap.size, B13, .inl hgm, ?_, ?_, fun k e => ?_, ?_, fun k e => ?_⟩
  · refine M8.keep ?_
    rw [k13.block gm (by omega) (Ne.symm hne), k11.block gm (by omega) (fun e => (hs gm e).2 rfl), b10.block gm (by omega)]
  · have := own_keepF (w' := w13) o11 fun k e => k13.block k (o11.lt k e).2 (og k e)
    simpa using this
  · rcases n11 k e with e' | e'
    · exact .inl (hs k e').1
    · have := (o11.lt k e).2
      exact .inr ⟨by omega, by omega⟩
  · have s1 : Stay D w8 w11 := ⟨by omega, fun k hk hd => (k11.block k (by omega) (hD k hd).2.2.2).trans (b10.block k hk)⟩
    have s2 : Stay D w11 w13 := k13.stay fun k _ hd => (hD k hd).2.1
    have s3 : Stay (fun k => w9.heap.size ≤ k ∧ k < w10.heap.size) w10 w11 := k11.stay fun k _ hd e => by have := hF k (hs k e).1; have := hd.1; omega
    have s4 : Stay (fun k => w9.heap.size ≤ k ∧ k < w10.heap.size) w11 w13 := k13.stay fun k _ hd e => by have := hd.1; omega
    exact (((R8.stay s1).stay s2).mono fun k e => .inl e).snoc (((P10.stay s3).stay s4).mono fun k e => .inr e)
  · rcases e with e | e
    · obtain ⟨d1, d2, d3, d4⟩ := hD k e
      refine ⟨.inl d1, d2, d3, fun c => (n11 k c).elim d4 fun c => ?_⟩
      have := hF k d1
      omega
    · refine ⟨.inr ⟨by omega, by omega⟩, by omega, by omega, fun c => ?_⟩
      rcases n11 k c with c | c
      · have := hF k (hs k c).1; omega
      · omega
set_option maxRecDepth 100000 in
set_option maxHeartbeats 8000000 in
theorem put31_any {w : World} {F : Nat → Prop} {g : Nat} {L : List PatV} (hI : IdxAt w F g L) (hn : L.length ≤ 10000) (p : PatV) (cs : List Value) (hp : PatAt w cs p) (hq : p.2.1.length ≤ 100000 ∧ p.2.2.length ≤ 100000) :
    Calls Tryz.prog 32 #[.pointer (some ⟨g, 0, none⟩), .agg cs.toArray] w (PutRet w F g L p) := by
  have HI0 := Lib.hid hI
  have HPAT := Lib.hid hp
  have HQ := Lib.hid hq
  obtain ⟨⟨A, c, A', c', rfl, P1, _⟩, m1, _⟩ := hp
  unfold maxLen at m1
  have P1 := Lib.hid P1
  have K1 : Hid (Blk (w.alloc (.cells (patC p.1 A p.2.1.length c A' p.2.2.length c').toArray 31)) w.heap.size 31 (patC p.1 A p.2.1.length c A' p.2.2.length c').toArray) := Blk.new _ _ _
  have B0 : Hid (Below w.heap.size w (w.alloc (.cells (patC p.1 A p.2.1.length c A' p.2.2.length c').toArray 31))) := below_new _ _
  clear hI hq
  go_enter Tryz.func32, Tryz.ntmps32
  go_upto_region 1 with fail
  generalize (w.alloc (.cells (patC p.1 A p.2.1.length c A' p.2.2.length c').toArray 31)) = w2 at *
  generalize w.heap.size = g1 at K1 ⊢
  have PA := Lib.hid (HPAT.out.ext B0.out)
  have HG := Lib.hid (good18_any p w2 _ PA.out)
  clear HPAT
  cases hg : patB p
  · rw [hg] at HG
    have N := Lib.hid (idxE_1 (L := L) hg)
    clear hg
    go_wp2_with (refine wpList_load_rowG (by rfl) 31 _ (by rfl) g1 (by rfl) _ _ _ _ K1.out underPat rfl infoPat ?_)
    refine HG.out.mono ?_
    rintro e w3 ⟨rfl, b3⟩
    have B3 := Lib.hid (B0.out.trans (b3.mono B0.out.size))
    clear b3 HG
    go_wp2
    go_ret
    exact putRet_no HI0.out B3.out N.out (by decide)
  · rw [hg] at HG
    have hg := Lib.hid hg
    go_wp2_with (refine wpList_load_rowG (by rfl) 31 _ (by rfl) g1 (by rfl) _ _ _ _ K1.out underPat rfl infoPat ?_)
    refine HG.out.mono ?_
    rintro e w3 ⟨rfl, b3⟩
    have B3 := Lib.hid (B0.out.trans (b3.mono B0.out.size))
    have PA := Lib.hid (PA.out.ext b3)
    have K1 := Lib.hid (K1.out.ext b3)
    clear b3 HG B0
    go_upto_region 3 with fail
    have HI := Lib.hid (HI0.out.ext B3.out)
    have RP1 := Lib.hid (patC_pid K1.out)
    have hg1l : Hid (g1 < w3.heap.size) := K1.out.lt
    obtain ⟨As, cs, gm, IC⟩ := HI.out.cells
    have c65 := IC.m
    obtain ⟨kl, hkl⟩ := kKeyP p.1
    obtain ⟨v, ok, hv, hrun⟩ := IC.map.look_ok kLawI kMapI kZeroInt hkl
    have hrun := Lib.hid hrun
    have gml := Lib.hid IC.map.lt
    clear hkl
    have HR : Hid (∀ w', (∃ z : Ext w3, w' = z.w) → (Instr.lookup 167 (.map (some gm)) (.agg (encP p.1).toArray) true).run Tryz.prog w' = .ok (.tuple #[v, .bool ok]) w') := by
      rintro _ ⟨z, rfl⟩
      exact hrun.out _ (z.h.block gm gml.out)
    clear hrun
    rcases hv with ⟨rfl, hno, rfl⟩ | ⟨rfl, hyes⟩
    · have FN : Hid (findP L p.1 = none) := findP_none.2 (idxM_none hno)
      clear hno IC
      refine wp_region_ext mixedS (by kernel_rfl) ?_
      repeat (first
        | (refine wpQuiet_load_mid (rangeAt_ext RP1.out hg1l.out) underPid rfl infoPid rfl rfl ?_; simp only [List.set_cons_succ, List.set_cons_zero])
        | (refine wpQuiet_look HR.out rfl rfl rfl ?_; simp only [List.set_cons_succ, List.set_cons_zero])
        | go_big_quiet_step (fail))
      refine wpQuiet_nil ?_
      rintro _ ⟨z, rfl⟩
      have B4 := Lib.hid (B3.out.trans (z.h.mono B3.out.size))
      have HI := Lib.hid (HI.out.ext z.h)
      have PA := Lib.hid (PA.out.ext z.h)
      have K1 := Lib.hid (K1.out.ext z.h)
      generalize z.w = w4 at *
      have P1 := Lib.hid (P1.out.ext B4.out)
      clear c65 HR B3 RP1 hg1l gml
      obtain ⟨As, cs, gm, IC⟩ := HI.out.cells
      have RV := Lib.hid IC.v
      have glt := Lib.hid IC.lt
      have a2 : w4.cell? ⟨g1, 2, none⟩ = some (.slice A p.2.1.length c) := K1.out.cell 2
      have BS := Lib.hid (Below.refl w4.heap.size w4)
      clear IC
      go_wp2_with fail
      go_loopw [41] (fun i wr => ∃ k : Nat, k ≤ p.2.1.length ∧ i = .int .i64 k ∧ Hid ((p.2.1.take k).all (hasP (vecL L)) = true) ∧ Hid (Below w4.heap.size w4 wr)) (fun i _ => p.2.1.length - (intOf i).toNat)
      case atStart => exact ⟨0, by omega, rfl, rfl, BS.out⟩
      case round =>
        clear BS a2
        obtain ⟨k, hk, rfl, T, B⟩ := hrel
        have hk0 : (0 : Int) ≤ (k : Int) := by omega
        by_cases hlt : k < p.2.1.length
        · have hlk : (k : Int) < (p.2.1.length : Int) := by omega
          obtain ⟨b, o, x, rfl, hb, hx, R⟩ := P1.out.at_ hlt
          have R := Lib.hid (rangeAt_below R B.out hb)
          have K4 : Hid (Blk ((wr.alloc (.cells #[.int .u8 0, .int .u16 0] 27)).setRow wr.heap.size (encP x).toArray) wr.heap.size 27 (encP x).toArray) := (Blk.new _ _ _).row _
          have B5 : Hid (Below wr.heap.size wr ((wr.alloc (.cells #[.int .u8 0, .int .u16 0] 27)).setRow wr.heap.size (encP x).toArray)) := below_setRow ((Below.refl _ _).alloc (Nat.le_refl _) _) (Nat.le_refl _) _
          have RV5 := Lib.hid (rangeAt_below (rangeAt_below RV.out B.out glt.out) B5.out (Nat.lt_of_lt_of_le glt.out B.out.size))
          have gl5 : Hid (g < ((wr.alloc (.cells #[.int .u8 0, .int .u16 0] 27)).setRow wr.heap.size (encP x).toArray).heap.size) := Nat.lt_of_lt_of_le (Nat.lt_of_lt_of_le glt.out B.out.size) B5.out.size
          have B6 := Lib.hid (B.out.trans (B5.out.mono B.out.size))
          have HV : Hid (∀ u : World, Calls Tryz.prog 96 #[.agg ((vecL L).map (Value.int .u16)).toArray, .agg (encP x).toArray] u (RetB u (.bool (hasP (vecL L) x)))) := fun u => has_any (vecL L) (vecL_ok L) x.1.val x.1.isLt ((x.2.val : Nat) : Int) u
          clear B B5
          go_upto_region 11 with (first
            | (refine wpList_load_mid rfl 27 _ (by rfl) b (o + k * 2) (by rfl) _ _ R.out underPid rfl infoPid ?_)
            | (refine wpList_alloced (allocPI _) ?_)
            | (refine wpList_store_row rfl 27 _ _ (by rfl) wr.heap.size (encP x).toArray (by rfl) (by rfl) _ _ (Blk.new _ _ _) infoPid rfl (all_oneCell_toArray (encP_one x)) ?_))
          generalize ((wr.alloc (.cells #[.int .u8 0, .int .u16 0] 27)).setRow wr.heap.size (encP x).toArray) = w5 at *
          generalize wr.heap.size = gd at *
          simp only [Act.put, List.setIfInBounds_toArray, List.set_cons_zero, List.set_cons_succ]
          cases hh : hasP (vecL L) x
          · rw [hh] at HV
            have N := Lib.hid (idxE_9 hg.out FN.out (by rw [allL_false hx hh]; rfl))
            clear hh T hx
            refine wp_region_ext mixedS (by kernel_rfl) ?_
            repeat (first
              | (refine wpQuiet_load_mid (rangeAt_ext RV5.out gl5.out) under64 rfl (info64' (vecL_ok L)) rfl rfl ?_; simp only [List.set_cons_succ, List.set_cons_zero])
              | (refine wpQuiet_load_row K4.out underPid rfl infoPid rfl rfl ?_; simp only [List.set_cons_succ, List.set_cons_zero])
              | go_big_quiet_step ((go_at_call 96; exact ext_call (HV.out _))))
            refine wpQuiet_nil ?_
            rintro _ ⟨z, rfl⟩
            have B7 := Lib.hid (B4.out.trans ((B6.out.trans (z.h.mono B6.out.size)).mono B4.out.size))
            generalize z.w = w6 at *
            go_wp2
            go_ret
            exact putRet_no HI0.out B7.out N.out (by decide)
          · rw [hh] at HV
            have N := Lib.hid (allL_snoc hx T.out hh)
            clear hh T hx
            refine wp_region_ext mixedS (by kernel_rfl) ?_
            repeat (first
              | (refine wpQuiet_load_mid (rangeAt_ext RV5.out gl5.out) under64 rfl (info64' (vecL_ok L)) rfl rfl ?_; simp only [List.set_cons_succ, List.set_cons_zero])
              | (refine wpQuiet_load_row K4.out underPid rfl infoPid rfl rfl ?_; simp only [List.set_cons_succ, List.set_cons_zero])
              | go_big_quiet_step ((go_at_call 96; exact ext_call (HV.out _))))
            refine wpQuiet_nil ?_
            rintro _ ⟨z, rfl⟩
            have B7 := Lib.hid (B6.out.trans (z.h.mono B6.out.size))
            generalize z.w = w6 at *
            go_wp2_with fail
            go_roundw
            case rel => exact ⟨k + 1, by omega, by go_num, N.out, B7.out⟩
            case measure => simp [intOf]; omega
        · have hk' : k = p.2.1.length := by omega
          subst hk'
          rw [List.take_length] at T
          have T' : Hid (∀ b, putB (vecL L) p.1 = b → (p.2.1.all (hasP (vecL L)) && putB (vecL L) p.1) = b) := fun b hb => by rw [T.out, hb]; rfl
          have HI := Lib.hid (HI.out.ext B.out)
          have PA := Lib.hid (PA.out.ext B.out)
          have K1 := Lib.hid (K1.out.ext B.out)
          have B4 := Lib.hid (B4.out.trans (B.out.mono B4.out.size))
          clear B T RV glt P1 m1
          go_upto_region 14 with fail
          obtain ⟨As, cs, gm, IC⟩ := HI.out.cells
          have RV := Lib.hid IC.v
          have glt := Lib.hid IC.lt
          have RP := Lib.hid (patC_pid K1.out)
          have g1l : Hid (g1 < wr.heap.size) := K1.out.lt
          have HVW : Hid (VecOk (putW (vecL L) p.1)) := putV_ok (vecL_ok L) _ _
          have hsz0 : Hid ((vecA vec0).size = 64) := by rw [Hid, vecA_size]; exact vec0_ok.len
          have hsz1 : Hid ((vecA (putW (vecL L) p.1)).size = 64) := by rw [Hid, vecA_size]; exact HVW.out.len
          have hsz2 : Hid ((Tryz.prog.info? 75).map (·.size) = some (vecA (putW (vecL L) p.1)).size) := by rw [Hid, hsz1.out]; exact info64
          have hone := Lib.hid (vecA_one (putW (vecL L) p.1))
          have HVP : Hid (∀ u : World, Calls Tryz.prog 66 #[.agg ((vecL L).map (Value.int .u16)).toArray, .agg (encP p.1).toArray] u (RetB u (.tuple #[.agg (vecA (putW (vecL L) p.1)), .bool (putB (vecL L) p.1)]))) := fun u => put_any (vecL L) (vecL_ok L) p.1.1.val p.1.1.isLt _ ⟨by omega, by have := p.1.2.isLt; omega⟩ u
          have hcP : ∀ args u, (callFunc 66 args).run Tryz.prog u = .ok (.enter 66 args) u := enters_of Tryz.func66 (by kernel_rfl) rfl
          clear IC
          go_cut [9, 10] (fun pv okv wx => ∃ gv, pv = .pointer (some ⟨gv, 0, none⟩) ∧ okv = .bool (putB (vecL L) p.1) ∧ Blk wx gv 75 (vecA (putW (vecL L) p.1)) ∧ Below wr.heap.size wr wx)
          case first =>
            refine wp_region_Z (S := fun w' => Below wr.heap.size wr w') (Z := [11]) mixedS ?_
            have B5 : Hid (Below wr.heap.size wr wr.drew) := (Below.refl _ _).drew
            generalize wr.drew = w5 at *
            simp only [List.size_toArray, List.length_cons, List.length_nil]
            -- [14
            refine zV (i := 0) rfl (by kernel_rfl) (by kernel_rfl) (by kernel_rfl) (by kernel_rfl) (by kernel_rfl) (fun _ _ _ h => h) rfl (fun w' h => exMove (v := .pointer (some ⟨g, 0, none⟩)) rfl) B5.out ?_
            simp only [Act.put, List.setIfInBounds_toArray, List.set_cons_zero, List.set_cons_succ]
            refine zV (i := 1) rfl (by kernel_rfl) (by kernel_rfl) (by kernel_rfl) (by kernel_rfl) (by kernel_rfl) (fun _ _ _ h => h) rfl (fun w' h => exNil rfl) B5.out ?_
            simp only [Act.put, List.setIfInBounds_toArray, List.set_cons_zero, List.set_cons_succ]
            refine zV (i := 2) rfl (by kernel_rfl) (by kernel_rfl) (by kernel_rfl) (by kernel_rfl) (by kernel_rfl) (fun _ _ _ h => h) rfl (fun w' h => exField rfl (fieldIdx0 g w')) B5.out ?_
            simp only [Act.put, List.setIfInBounds_toArray, List.set_cons_zero, List.set_cons_succ]
            refine zV (i := 3) rfl (by kernel_rfl) (by kernel_rfl) (by kernel_rfl) (by kernel_rfl) (by kernel_rfl) (fun _ _ _ h => h) rfl (fun w' h => exMid rfl (rangeAt_below RV.out h glt.out) under64 rfl (info64' (vecL_ok L))) B5.out ?_
            simp only [Act.put, List.setIfInBounds_toArray, List.set_cons_zero, List.set_cons_succ]
            refine zV (i := 4) rfl (by kernel_rfl) (by kernel_rfl) (by kernel_rfl) (by kernel_rfl) (by kernel_rfl) (fun _ _ _ h => h) rfl (fun w' h => exField rfl (fieldPat0 g1 w')) B5.out ?_
            simp only [Act.put, List.setIfInBounds_toArray, List.set_cons_zero, List.set_cons_succ]
            refine zV (i := 5) rfl (by kernel_rfl) (by kernel_rfl) (by kernel_rfl) (by kernel_rfl) (by kernel_rfl) (fun _ _ _ h => h) rfl (fun w' h => exMid rfl (rangeAt_below RP.out h g1l.out) underPid rfl infoPid) B5.out ?_
            simp only [Act.put, List.setIfInBounds_toArray, List.set_cons_zero, List.set_cons_succ]
            refine wpAnyZ_all (rs := [6, 10]) (by kernel_rfl) (by simp) ?_
            intro i hi
            simp only [List.mem_cons, List.not_mem_nil, or_false] at hi
            rcases hi with rfl | rfl
            · refine wpOp_of rfl rfl (wp_called (args := #[.agg ((vecL L).map (Value.int .u16)).toArray, .agg (encP p.1).toArray]) hcP (by simp only [List.map_toArray, List.map_cons, List.map_nil]; rfl) (HVP.out w5) ?_)
              rintro e w6 ⟨rfl, b6⟩
              refine ⟨_, rfl, fun _ => ext_trans B5.out b6, ?_⟩
              simp only [Act.put, List.setIfInBounds_toArray, List.set_cons_zero, List.set_cons_succ]
              have B6 := Lib.hid (ext_trans B5.out b6)
              refine zV (i := 7) rfl (by kernel_rfl) (by kernel_rfl) (by kernel_rfl) (by kernel_rfl) (by kernel_rfl) (fun _ _ _ h => h) rfl (fun w' h => exMove (v := .tuple #[.agg (vecA (putW (vecL L) p.1)), .bool (putB (vecL L) p.1)]) rfl) B6.out ?_
              simp only [Act.put, List.setIfInBounds_toArray, List.set_cons_zero, List.set_cons_succ]
              refine zV (i := 8) rfl (by kernel_rfl) (by kernel_rfl) (by kernel_rfl) (by kernel_rfl) (by kernel_rfl) (fun _ _ _ h => h) rfl (fun w' h => exExtract rfl rfl) B6.out ?_
              simp only [Act.put, List.setIfInBounds_toArray, List.set_cons_zero, List.set_cons_succ]
              refine zLight (i := 9) rfl (by kernel_rfl) (by kernel_rfl) (by kernel_rfl) (by kernel_rfl) (fun _ _ _ h => h) rfl (fun w' => exExtract rfl rfl) (fun _ => B6.out) ?_
              simp only [Act.put, List.setIfInBounds_toArray, List.set_cons_zero, List.set_cons_succ]
              refine wpAnyZ_all (rs := [10]) (by kernel_rfl) (by simp) ?_
              intro i hi
              simp only [List.mem_cons, List.not_mem_nil, or_false] at hi
              subst hi
              refine wpOp_of rfl rfl (wp_alloced (alloc64 w6) ?_)
              refine ⟨fun _ => ext_trans B6.out (below_new _ _), ?_⟩
              simp only [Act.put, List.setIfInBounds_toArray, List.set_cons_zero, List.set_cons_succ]
              refine wpAnyZ_all (rs := [11]) (by kernel_rfl) (by simp) ?_
              intro i hi
              simp only [List.mem_cons, List.not_mem_nil, or_false] at hi
              subst hi
              refine wpOp_of rfl rfl (wp_stored (cs := vecA (putW (vecL L) p.1)) rfl rfl (Blk.new w6 75 (vecA vec0)) hsz2.out (by rw [hsz0.out, hsz1.out]) hone.out ?_)
              refine ⟨noZ (by kernel_rfl), ?_⟩
              refine wpAnyZ_all (rs := [12]) (by kernel_rfl) (by simp) ?_
              intro i hi
              simp only [List.mem_cons, List.not_mem_nil, or_false] at hi
              subst hi
              refine wpOp_of rfl rfl (wp_assigned rfl ?_)
              refine ⟨(noZ (by kernel_rfl)), ?_⟩
              simp only [Act.put, List.setIfInBounds_toArray, List.set_cons_zero, List.set_cons_succ]
              refine wpAnyZ_done (by kernel_rfl) ?_ _
              go_wp2_with fail
              go_meet
              case rel => exact ⟨_, rfl, rfl, Blk.row (Blk.new w6 75 (vecA vec0)) _, below_setRow (ext_trans B6.out (below_new w6 _)) B6.out.size _⟩
            · refine wpOp_of rfl rfl (wp_alloced (alloc64 w5) ?_)
              refine ⟨fun _ => ext_trans B5.out (below_new _ _), ?_⟩
              simp only [Act.put, List.setIfInBounds_toArray, List.set_cons_zero, List.set_cons_succ]
              have K7 : Hid (Blk (w5.alloc (.cells (vecA vec0) 75)) w5.heap.size 75 (vecA vec0)) := Blk.new _ _ _
              have B7 : Hid (Below wr.heap.size wr (w5.alloc (.cells (vecA vec0) 75))) := ext_trans B5.out (below_new _ _)
              have h57 := Lib.hid B5.out.size
              generalize (w5.alloc (.cells (vecA vec0) 75)) = w7 at *
              generalize w5.heap.size = gv at *
              refine wpAnyZ_all (rs := [6]) (by kernel_rfl) (by simp) ?_
              intro i hi
              simp only [List.mem_cons, List.not_mem_nil, or_false] at hi
              subst hi
              refine wpOp_of rfl rfl (wp_called (args := #[.agg ((vecL L).map (Value.int .u16)).toArray, .agg (encP p.1).toArray]) hcP (by simp only [List.map_toArray, List.map_cons, List.map_nil]; rfl) (HVP.out w7) ?_)
              rintro e w8 ⟨rfl, b6⟩
              refine ⟨_, rfl, fun _ => ext_trans B7.out b6, ?_⟩
              simp only [Act.put, List.setIfInBounds_toArray, List.set_cons_zero, List.set_cons_succ]
              have B8 := Lib.hid (ext_trans B7.out b6)
              have K8 := Lib.hid (K7.out.ext b6)
              refine zV (i := 7) rfl (by kernel_rfl) (by kernel_rfl) (by kernel_rfl) (by kernel_rfl) (by kernel_rfl) (fun _ _ _ h => h) rfl (fun w' h => exMove (v := .tuple #[.agg (vecA (putW (vecL L) p.1)), .bool (putB (vecL L) p.1)]) rfl) B8.out ?_
              simp only [Act.put, List.setIfInBounds_toArray, List.set_cons_zero, List.set_cons_succ]
              refine zV (i := 8) rfl (by kernel_rfl) (by kernel_rfl) (by kernel_rfl) (by kernel_rfl) (by kernel_rfl) (fun _ _ _ h => h) rfl (fun w' h => exExtract rfl rfl) B8.out ?_
              simp only [Act.put, List.setIfInBounds_toArray, List.set_cons_zero, List.set_cons_succ]
              refine zLight (i := 9) rfl (by kernel_rfl) (by kernel_rfl) (by kernel_rfl) (by kernel_rfl) (fun _ _ _ h => h) rfl (fun w' => exExtract rfl rfl) (fun _ => B8.out) ?_
              simp only [Act.put, List.setIfInBounds_toArray, List.set_cons_zero, List.set_cons_succ]
              refine wpAnyZ_all (rs := [11]) (by kernel_rfl) (by simp) ?_
              intro i hi
              simp only [List.mem_cons, List.not_mem_nil, or_false] at hi
              subst hi
              refine wpOp_of rfl rfl (wp_stored (cs := vecA (putW (vecL L) p.1)) rfl rfl K8.out hsz2.out (by rw [hsz0.out, hsz1.out]) hone.out ?_)
              refine ⟨noZ (by kernel_rfl), ?_⟩
              refine wpAnyZ_all (rs := [12]) (by kernel_rfl) (by simp) ?_
              intro i hi
              simp only [List.mem_cons, List.not_mem_nil, or_false] at hi
              subst hi
              refine wpOp_of rfl rfl (wp_assigned rfl ?_)
              refine ⟨(noZ (by kernel_rfl)), ?_⟩
              simp only [Act.put, List.setIfInBounds_toArray, List.set_cons_zero, List.set_cons_succ]
              refine wpAnyZ_done (by kernel_rfl) ?_ _
              go_wp2_with fail
              go_meet
              case rel => exact ⟨_, rfl, rfl, Blk.row K8.out _, below_setRow (B8.out) h57.out _⟩
            -- 14]
          case rest =>
            obtain ⟨gv, rfl, rfl, kv, bx⟩ := hcut
            obtain ⟨wx, rfl⟩ : ∃ wx, wx = wc := ⟨_, rfl⟩
            have KV := Lib.hid kv
            have HI := Lib.hid (HI.out.ext bx)
            have PA := Lib.hid (PA.out.ext bx)
            have K1 := Lib.hid (K1.out.ext bx)
            have B4 := Lib.hid (B4.out.trans (bx.mono B4.out.size))
            clear bx kv RV RP glt g1l HVP hsz0
            cases hpb : putB (vecL L) p.1
            · have N := Lib.hid (idxE_9 hg.out FN.out (T'.out _ hpb))
              clear hpb T'
              go_wp2
              go_ret
              exact putRet_no HI0.out B4.out N.out (by decide)
            · have N := Lib.hid (idxE_0 hg.out FN.out (T'.out _ hpb))
              clear hpb T'
              go_upto_region 17 with fail
              obtain ⟨s, gm, rows, D, k1, fgm, M, own, fs, RI, HD⟩ := HI.out.ex
              obtain ⟨As, cs, rfl, _, _⟩ := Sl.of_own own
              have c64 : wx.cell? ⟨g, 64, none⟩ = some (.slice As L.length cs) := idx_s (vecL_ok L) k1
              have c65 : wx.cell? ⟨g, 65, none⟩ = some (.map (some gm)) := idx_m (vecL_ok L) k1
              have RP := Lib.hid (patC_pid K1.out)
              have M := Lib.hid M
              have k1 := Lib.hid k1
              have own := Lib.hid own
              have RI := Lib.hid RI
              have HD := Lib.hid HD
              have fgm := Lib.hid fgm
              have fs := Lib.hid fs
              obtain ⟨kl, hkl⟩ := kKeyP p.1
              have hkl := Lib.hid hkl
              refine wp_region_drawn 11 (by kernel_rfl) (by kernel_rfl) ?_
              simp only [List.take_succ_cons, List.take_zero, List.drop_succ_cons, List.drop_zero]
              repeat (first
                | (refine wpQuiet_load_mid (rangeAt_drewN1 RP.out) underPid rfl infoPid rfl rfl ?_; simp only [List.set_cons_succ, List.set_cons_zero])
                | go_big_quiet_step (fail))
              refine wpQuiet_nil ?_
              rintro _ ⟨nq, rfl⟩
              clear c64 c65
              obtain ⟨o, l', hrun, hput, m8⟩ := (M.out.drewN nq).put (val := .int .i64 (L.length : Int)) kLawI kMapI hkl.out
              have el : Hid (l' = idxM (L ++ [p])) := by
                rcases hput with ⟨_, e⟩ | ⟨j, v0, hj, _⟩
                · rw [Hid, e, idxM_snoc]
                · obtain ⟨i, q, hi, hq, _⟩ := idxM_key (List.mem_of_getElem? hj)
                  exact absurd hq (findP_none.1 FN.out q (List.mem_of_getElem? hi))
              rw [el.out] at m8
              have M8 := Lib.hid m8
              clear hput el m8
              have ggm : Hid (g ≠ gm) := blk_ne_map k1.out M.out
              have KI8 := Lib.hid (Blk.setBlock (k1.out.drewN nq) ggm.out o)
              have own8 := Lib.hid (own_keepF (w' := setBlock (wx.drewN nq) gm o) own.out (fun k e => setBlock_other (own_ne_map own.out M.out e)))
              have KG8 := Lib.hid (Blk.setBlock (KV.out.drewN nq) (blk_ne_map KV.out M.out) o)
              have KP8 := Lib.hid (Blk.setBlock (K1.out.drewN nq) (blk_ne_map K1.out M.out) o)
              have kep8 : Hid (Kept (fun k => k = gm) wx (setBlock (wx.drewN nq) gm o)) := Kept.setBlock (F := fun k => k = gm) ((Kept.refl _ _).drewN nq) (.inl rfl) o
              have PA8 : Hid (PatAt (setBlock (wx.drewN nq) gm o) _ p) := PatAt.setBlock (P := Tryz.prog) (kt := 27) (w := wx.drewN nq) (PA.out.ext (below_drewN (Below.refl _ _) nq)) (M.out.drewN nq) o
              have RI8 := Lib.hid (RI.out.stay (kep8.out.stay fun k _ hd e => (HD.out k hd).2.2.1 e))
              have hsm : Hid (∀ k, (Value.slice As L.length cs).ownBlock = some k → F k ∧ k ≠ gm) := fun k e => ⟨fs.out k e, own_ne_map own.out M.out e⟩
              have KF8 := Lib.hid ((Kept.of_below (F := F) B4.out).trans kep8.out fun x e => .inl (by rw [e]; exact fgm.out))
              clear k1 own KV K1 PA RI M kep8
              go_wp2_with (refine wpList_mapput rfl rfl rfl hrun ?_)
              generalize setBlock (wx.drewN nq) gm o = w8 at *
              clear hrun
              have RG := Lib.hid (blk_vec KG8.out)
              have ggl : Hid (gv < w8.heap.size) := KG8.out.lt
              have RW := Lib.hid (blk_pat KP8.out)
              have g1l8 : Hid (g1 < w8.heap.size) := KP8.out.lt
              have gl8 : Hid (g < w8.heap.size) := KI8.out.lt
              have c64 := Lib.hid (idx_s (vecL_ok L) KI8.out)
              have HC := Lib.hid (fun (u : World) (hu : Below w8.heap.size w8 u) => copy18_any p u _ (PA8.out.ext hu) HQ.out.1 HQ.out.2)
              have hcC : ∀ args u, (callFunc 97 args).run Tryz.prog u = .ok (.enter 97 args) u := enters_of Tryz.func97 (by kernel_rfl) rfl
              have PA := PA8
              have SK : Hid (∀ u, Below w8.heap.size w8 u → (u.rangeAt gv 0 ((putW (vecL L) p.1).map (Value.int .u16)) ∧ u.cell? ⟨g, 64, none⟩ = some (.slice As L.length cs))) := fun u hu =>
                ⟨rangeAt_below RG.out hu ggl.out, (hu.cell (p := ⟨g, 64, none⟩) gl8.out).trans c64.out⟩
              refine wp_region_Z (S := fun w' => w'.rangeAt gv 0 ((putW (vecL L) p.1).map (Value.int .u16)) ∧ w'.cell? ⟨g, 64, none⟩ = some (.slice As L.length cs)) (Z := [13, 16]) mixedS ?_
              have B9 : Hid (Below w8.heap.size w8 w8.drew) := (Below.refl _ _).drew
              generalize w8.drew = w9 at *
              simp only [List.size_toArray, List.length_cons, List.length_nil]
              -- [18
              refine zLight (i := 0) rfl (by kernel_rfl) (by kernel_rfl) (by kernel_rfl) (by kernel_rfl) (fun _ _ _ h => h) rfl (fun w' => exMove (v := .pointer (some ⟨g, 0, none⟩)) rfl) (fun _ => SK.out w9 B9.out) ?_
              simp only [Act.put, List.setIfInBounds_toArray, List.set_cons_zero, List.set_cons_succ]
              refine zLight (i := 1) rfl (by kernel_rfl) (by kernel_rfl) (by kernel_rfl) (by kernel_rfl) (fun _ _ _ h => h) rfl (fun w' => exMove (v := .pointer (some ⟨g, 0, none⟩)) rfl) (fun _ => SK.out w9 B9.out) ?_
              simp only [Act.put, List.setIfInBounds_toArray, List.set_cons_zero, List.set_cons_succ]
              refine zLight (i := 3) rfl (by kernel_rfl) (by kernel_rfl) (by kernel_rfl) (by kernel_rfl) (fun _ _ _ h => h) rfl (fun w' => exMove (v := .pointer (some ⟨g, 0, none⟩)) rfl) (fun _ => SK.out w9 B9.out) ?_
              simp only [Act.put, List.setIfInBounds_toArray, List.set_cons_zero, List.set_cons_succ]
              refine zLight (i := 4) rfl (by kernel_rfl) (by kernel_rfl) (by kernel_rfl) (by kernel_rfl) (fun _ _ _ h => h) rfl (fun w' => exNil rfl) (fun _ => SK.out w9 B9.out) ?_
              simp only [Act.put, List.setIfInBounds_toArray, List.set_cons_zero, List.set_cons_succ]
              refine zLight (i := 5) rfl (by kernel_rfl) (by kernel_rfl) (by kernel_rfl) (by kernel_rfl) (fun _ _ _ h => h) rfl (fun w' => exField rfl (fieldIdx1 g w')) (fun _ => SK.out w9 B9.out) ?_
              simp only [Act.put, List.setIfInBounds_toArray, List.set_cons_zero, List.set_cons_succ]
              refine zV (i := 2) rfl (by kernel_rfl) (by kernel_rfl) (by kernel_rfl) (by kernel_rfl) (by kernel_rfl) (fun _ _ _ h => h) rfl (fun w' h => exMid rfl h.1 under64 rfl (info64' HVW.out)) (SK.out w9 B9.out) ?_
              simp only [Act.put, List.setIfInBounds_toArray, List.set_cons_zero, List.set_cons_succ]
              refine zV (i := 6) rfl (by kernel_rfl) (by kernel_rfl) (by kernel_rfl) (by kernel_rfl) (by kernel_rfl) (fun _ _ _ h => h) rfl (fun w' h => exLoad rfl (loadPats g 64 w' _ _ _ h.2)) (SK.out w9 B9.out) ?_
              simp only [Act.put, List.setIfInBounds_toArray, List.set_cons_zero, List.set_cons_succ]
              refine wpAnyZ_all (rs := [7]) (by kernel_rfl) (by simp) ?_
              intro i hi
              simp only [List.mem_cons, List.not_mem_nil, or_false] at hi
              subst hi
              refine wpOp_of rfl rfl (wp_loadedM rfl (rangeAt_below RW.out B9.out g1l8.out) underPat rfl infoPat ?_)
              refine ⟨fun _ => SK.out w9 B9.out, ?_⟩
              simp only [Act.put, List.setIfInBounds_toArray, List.set_cons_zero, List.set_cons_succ]
              refine wpAnyZ_all (rs := [8]) (by kernel_rfl) (by simp) ?_
              intro i hi
              simp only [List.mem_cons, List.not_mem_nil, or_false] at hi
              subst hi
              refine wpOp_of rfl rfl (wp_called (args := #[.agg (patC p.1 A p.2.1.length c A' p.2.2.length c').toArray]) hcC (by simp only [List.map_toArray, List.map_cons, List.map_nil]; rfl) (HC.out w9 B9.out) ?_)
              rintro e w10 ⟨A3, c3, A4, c4, rfl, o1, o2, b10⟩
              have B10 := Lib.hid (ext_trans B9.out b10)
              refine ⟨_, rfl, fun _ => SK.out w10 B10.out, ?_⟩
              simp only [Act.put, List.setIfInBounds_toArray, List.set_cons_zero, List.set_cons_succ]
              have PN := Lib.hid (PatIn.of_copy o1 o2 PA.out.oks PA.out.len1 PA.out.len2)
              have own10 := Lib.hid (own_ext own8.out B10.out)
              have h910 := Lib.hid B9.out.size
              clear o1 o2 b10
              refine wpAnyZ_all (rs := [9]) (by kernel_rfl) (by simp) ?_
              intro i hi
              simp only [List.mem_cons, List.not_mem_nil, or_false] at hi
              subst hi
              refine wpOp_of rfl rfl (wp_lit1 patSl PN.out.len4 (by omega) rfl ?_)
              refine ⟨fun _ => SK.out _ (ext_trans B10.out (below_new _ _)), ?_⟩
              simp only [Act.put, List.setIfInBounds_toArray, List.set_cons_zero, List.set_cons_succ]
              refine wpAnyZ_all (rs := [10]) (by kernel_rfl) (by simp) ?_
              intro i hi
              simp only [List.mem_cons, List.not_mem_nil, or_false] at hi
              subst hi
              refine wpOp_of rfl rfl (wp_pushF patSl own10.out (patC p.1 A3 p.2.1.length c3 A4 p.2.2.length c4) PN.out.len4 PN.out.one (Nat.zero_le _) (by omega) (by unfold maxLen; omega) rfl rfl rfl ?_)
              intro v11 w11 own11 kep11 new11
              have K11 : Hid (Blk w11 g 169 (idxC (vecL L) (.slice As L.length cs) gm)) := kep11.blk (KI8.out.ext B10.out) (fun e => own_ne_blk own10.out (KI8.out.ext B10.out) (by decide) e rfl)
              have KG11 := Lib.hid (kep11.blk (KG8.out.ext B10.out) (fun e => own_ne_blk own10.out (KG8.out.ext B10.out) (by decide) e rfl))
              refine ⟨fun _ => ⟨blk_vec KG11.out, idx_s (vecL_ok L) K11.out⟩, ?_⟩
              simp only [Act.put, List.setIfInBounds_toArray, List.set_cons_zero, List.set_cons_succ]
              obtain ⟨A5, c5, rfl, _, _⟩ := Sl.of_own own11
              have own11 := Lib.hid own11
              have kep11 := Lib.hid kep11
              have new11 := Lib.hid new11
              refine zLight (i := 11) rfl (by kernel_rfl) (by kernel_rfl) (by kernel_rfl) (by kernel_rfl) (fun _ _ _ h => h) rfl (fun w' => exNil rfl) (fun _ => ⟨blk_vec KG11.out, idx_s (vecL_ok L) K11.out⟩) ?_
              simp only [Act.put, List.setIfInBounds_toArray, List.set_cons_zero, List.set_cons_succ]
              refine zLight (i := 12) rfl (by kernel_rfl) (by kernel_rfl) (by kernel_rfl) (by kernel_rfl) (fun _ _ _ h => h) rfl (fun w' => exField rfl (fieldIdx0 g w')) (fun _ => ⟨blk_vec KG11.out, idx_s (vecL_ok L) K11.out⟩) ?_
              simp only [Act.put, List.setIfInBounds_toArray, List.set_cons_zero, List.set_cons_succ]
              refine wpAnyZ_all (rs := [13]) (by kernel_rfl) (by simp) ?_
              intro i hi
              simp only [List.mem_cons, List.not_mem_nil, or_false] at hi
              subst hi
              refine wpOp_of rfl rfl (wpStored1 rfl rfl (run_storeAt_mid w11 g 0 75 (vecA (putW (vecL L) p.1)) (there_idx (vecL_ok L) HVW.out K11.out) hsz2.out hone.out) ?_)
              refine ⟨noZ (by kernel_rfl), ?_⟩
              have K12 := Lib.hid (setCells_idx (vecL_ok L) HVW.out K11.out)
              have kep12 : Hid (Kept (fun k => k = g) w11 (w11.setCells g 0 (vecA (putW (vecL L) p.1)).toList)) := Kept.setCells (F := fun k => k = g) (.inl rfl) _ 0 _ (Kept.refl _ _)
              generalize (w11.setCells g 0 (vecA (putW (vecL L) p.1)).toList) = w12 at *
              refine zLight (i := 14) rfl (by kernel_rfl) (by kernel_rfl) (by kernel_rfl) (by kernel_rfl) (fun _ _ _ h => h) rfl (fun w' => exNil rfl) (noZ (by kernel_rfl)) ?_
              simp only [Act.put, List.setIfInBounds_toArray, List.set_cons_zero, List.set_cons_succ]
              refine zLight (i := 15) rfl (by kernel_rfl) (by kernel_rfl) (by kernel_rfl) (by kernel_rfl) (fun _ _ _ h => h) rfl (fun w' => exField rfl (fieldIdx1 g w')) (noZ (by kernel_rfl)) ?_
              simp only [Act.put, List.setIfInBounds_toArray, List.set_cons_zero, List.set_cons_succ]
              refine wpAnyZ_all (rs := [16]) (by kernel_rfl) (by simp) ?_
              intro i hi
              simp only [List.mem_cons, List.not_mem_nil, or_false] at hi
              subst hi
              refine wpOp_of rfl rfl (wpStored1 rfl rfl (storePats g 64 w12 _ _ _ (idx_s HVW.out K12.out) (K12.out.fr 64)) ?_)
              refine ⟨noZ (by kernel_rfl), ?_⟩
              have K13 := Lib.hid (set_idx (s' := .slice A5 (L.length + 1) c5) HVW.out K12.out)
              have kep13 : Hid (Kept (fun k => k = g) w12 (w12.setCell ⟨g, 64, none⟩ (.slice A5 (L.length + 1) c5))) := Kept.setCell (F := fun k => k = g) (Kept.refl _ _) (p := ⟨g, 64, none⟩) (.inl rfl) _
              generalize (w12.setCell ⟨g, 64, none⟩ (.slice A5 (L.length + 1) c5)) = w13 at *
              refine wpAnyZ_done (by kernel_rfl) ?_ _
              -- 18]
              go_wp2
              go_ret
              have G := idx_grown (w9 := w9) (HI.out.ok.snoc N.out) HI0.out.lt HI0.out.self fgm.out ggm.out hsm.out HD.out KF8.out M8.out RI8.out h910.out B10.out PN.out own11.out kep11.out new11.out (kep12.out.trans kep13.out fun _ e => .inl e) (by rw [vecL_snoc]; exact K13.out) (fun k e => own_ne_blk own11.out K11.out (by decide) e)
              have E : idxL L p = L ++ [p] := if_pos N.out
              rw [← E] at G
              refine ⟨by rw [N.out]; rfl, G.1, _, G.2, ?_⟩
              rintro k (e | e)
              · exact .inl e
              · exact .inr e.1
    · obtain ⟨i, q, hi, hq1, rfl⟩ := idxM_key hyes
      have FS : Hid (findP L p.1 = some q) := by rw [← hq1]; exact HI.out.ok.find hi
      have hil : i < L.length := (List.getElem?_eq_some_iff.1 hi).1
      have hil' : (i : Int) < (L.length : Int) := by omega
      have hi0 : (0 : Int) ≤ (i : Int) := by omega
      obtain ⟨b, o, q', r, rfl, hb, hq', pa, R⟩ := IC.pats.pat_ hil
      obtain rfl : q = q' := by rw [hi] at hq'; exact Option.some.inj hq'
      have PQ := Lib.hid pa
      have R := Lib.hid R
      have hb := Lib.hid hb
      have c64 := IC.s
      obtain ⟨⟨A1, c1, A2, c2, rfl, _, _, _, _⟩, _, _⟩ := PQ.out
      clear pa hyes hq' hi IC hq1
      refine wp_region_ext mixedS (by kernel_rfl) ?_
      repeat (first
        | (refine wpQuiet_load_mid (rangeAt_ext RP1.out hg1l.out) underPid rfl infoPid rfl rfl ?_; simp only [List.set_cons_succ, List.set_cons_zero])
        | (refine wpQuiet_look HR.out rfl rfl rfl ?_; simp only [List.set_cons_succ, List.set_cons_zero])
        | go_big_quiet_step (fail))
      refine wpQuiet_nil ?_
      rintro _ ⟨z, rfl⟩
      have B4 := Lib.hid (B3.out.trans (z.h.mono B3.out.size))
      have hb4 : Hid (b < z.w.heap.size) := Nat.lt_of_lt_of_le hb.out z.h.size
      have c64 : ∀ z' : Ext z.w, z'.w.cell? ⟨g, 64, none⟩ = some (.slice (some ⟨b, o, none⟩) L.length cs) := fun z' => c64 ⟨z'.w, ext_trans z.h z'.h⟩
      have R4 := Lib.hid (rangeAt_ext R.out hb.out z.w ⟨z, rfl⟩)
      have PA := Lib.hid (PA.out.ext z.h)
      have PQ := Lib.hid (PQ.out.ext z.h)
      have K1 := Lib.hid (K1.out.ext z.h)
      generalize z.w = w4 at *
      clear c65 HR B3 RP1 hg1l gml R
      have HS := Lib.hid (fun z : Ext w4 => psame q p z.w _ _ (PQ.out.at_.ext z.h) (PA.out.ext z.h))
      by_cases hqp : q = p
      · have N := Lib.hid (idxE_7 hg.out FS.out hqp)
        rw [decide_eq_true hqp] at HS
        clear hqp
        go_wp2_with fail
        refine wp_region_ext mixedS (by kernel_rfl) ?_
        repeat (first
          | (refine wpQuiet_load_row K1.out underPat rfl infoPat rfl rfl ?_; simp only [List.set_cons_succ, List.set_cons_zero])
          | (refine wpQuiet_load_mid (rangeAt_ext R4.out hb4.out) underPat rfl infoPat rfl rfl ?_; simp only [List.set_cons_succ, List.set_cons_zero])
          | go_big_quiet_step ((go_at_call 13; exact ext_call (HS.out _))))
        refine wpQuiet_nil ?_
        rintro _ ⟨z, rfl⟩
        have B5 := Lib.hid (B4.out.trans (z.h.mono B4.out.size))
        generalize z.w = w5 at *
        clear c64
        go_wp2
        go_ret
        exact putRet_no HI0.out B5.out N.out (by decide)
      · have N := Lib.hid (idxE_8 hg.out FS.out hqp)
        rw [decide_eq_false hqp] at HS
        clear hqp
        go_wp2_with fail
        refine wp_region_ext mixedS (by kernel_rfl) ?_
        repeat (first
          | (refine wpQuiet_load_row K1.out underPat rfl infoPat rfl rfl ?_; simp only [List.set_cons_succ, List.set_cons_zero])
          | (refine wpQuiet_load_mid (rangeAt_ext R4.out hb4.out) underPat rfl infoPat rfl rfl ?_; simp only [List.set_cons_succ, List.set_cons_zero])
          | go_big_quiet_step ((go_at_call 13; exact ext_call (HS.out _))))
        refine wpQuiet_nil ?_
        rintro _ ⟨z, rfl⟩
        have B5 := Lib.hid (B4.out.trans (z.h.mono B4.out.size))
        generalize z.w = w5 at *
        clear c64
        go_wp2
        go_ret
        exact putRet_no HI0.out B5.out N.out (by decide)
end Go.Proofs.YtihggkmjalofiaaGreatDoor

/- An index made of patches; what any vector lacks, by the document: walked. -/
namespace Go.Proofs.YtihggkmjalofiaaGreatDoor
open Go.RowKit

end Go.Proofs.YtihggkmjalofiaaGreatDoor

/- Regions that draw their order and whose operations keep a condition on the world: one walk in the order of the text. No program in sight but as a variable. -/
namespace Go.Proofs.YtihggkmjalofiaaGreatDoor
open Go.RowKit

end Go.Proofs.YtihggkmjalofiaaGreatDoor

/- The chapter's example of an index: walked. -/
namespace Go.Proofs.YtihggkmjalofiaaGreatDoor
open Go.RowKit

end Go.Proofs.YtihggkmjalofiaaGreatDoor

/- The document's index: a patch by its name; which there are: walked. -/
namespace Go.Proofs.YtihggkmjalofiaaGreatDoor
open Go.RowKit

end Go.Proofs.YtihggkmjalofiaaGreatDoor

/- Who lacks some can put the first one at once, and then all, in order: walked. -/
namespace Go.Proofs.YtihggkmjalofiaaGreatDoor
open Go.RowKit

end Go.Proofs.YtihggkmjalofiaaGreatDoor

/- Texts of general use, one behind another. -/

/- A map's block that is ranged over, by its entries: the start, the step, the taking out of an entry. No program in sight but as a variable. -/
namespace Go.Proofs.YtihggkmjalofiaaGreatDoor
open Go.RowKit Go.MapKept
open Go.ChangeMaps (setBlock modify_eq_set)
open Go.WideMaps (KeyLaw)

/-- block r goes over the map in block b, whose entries are l; those of todo are still to come -/
def RangeIs (P : Program) (k : TypeId) (w : World) (b r : Nat) (l todo : List (Value × Value)) : Prop :=
  ∃ es clock since seen c0, w.heap[b]? = some (.map es clock) ∧ Stamped es clock ∧ (∀ e ∈ es.toList, ∃ kl, keyOf P k e.key = some kl) ∧ l = es.toList.map pairOf ∧
    w.heap[r]? = some (.mapIter (some b) since seen c0) ∧ (∀ x ∈ es.toList, x.born < since) ∧ since ≤ c0 ∧ since ≤ clock ∧ todo = (leftOf es seen).toList.map pairOf

theorem left_perm {es : Array MapEntry} {seen : Array Nat} {e : MapEntry} (hn : (es.toList.map (·.born)).Nodup) (he : e ∈ (leftOf es seen).toList) : (leftOf es seen).toList.Perm (e :: (leftOf es (seen.push e.born)).toList) := by
  have e1 : (leftOf es (seen.push e.born)).toList = (leftOf es seen).toList.filter (fun x => x.born != e.born) := by
    unfold leftOf
    rw [Array.toList_filter, Array.toList_filter, List.filter_filter]
    refine List.filter_congr fun x _ => ?_
    rw [contains_push]
    cases seen.contains x.born <;> cases hc : (x.born == e.born) <;> simp [bne, hc]
  rw [e1]
  have hn' : ((leftOf es seen).toList.map (·.born)).Nodup := by
    have hs : (leftOf es seen).toList.Sublist es.toList := by
      unfold leftOf; rw [Array.toList_filter]; exact List.filter_sublist
    exact (hs.map _).nodup hn
  generalize (leftOf es seen).toList = L at *
  clear e1 hn
  induction L with
  | nil => cases he
  | cons x L ih =>
    have hc := List.nodup_cons.1 (show (x.born :: L.map (·.born)).Nodup from hn')
    rcases List.mem_cons.1 he with rfl | h
    · have : L.filter (fun y => y.born != e.born) = L := List.filter_eq_self.2 fun y hy => by
        simp only [bne_iff_ne, ne_eq]
        exact fun h => hc.1 (h ▸ List.mem_map.2 ⟨y, hy, rfl⟩)
      simp [this]
    · have hx : (x.born != e.born) = true := by
        simp only [bne_iff_ne, ne_eq]
        exact fun h' => hc.1 (h' ▸ List.mem_map.2 ⟨e, h, rfl⟩)
      rw [List.filter_cons, if_pos hx]
      exact ((ih h hc.2).cons x).trans (List.Perm.swap e x _)

section
variable {P : Program} {k : TypeId} {w w' : World} {b r : Nat} {l todo : List (Value × Value)}
theorem RangeIs.map (h : RangeIs P k w b r l todo) : MapIs P k w b l := by
  obtain ⟨es, clock, _, _, _, hb, hs, hk, hl, _⟩ := h
  exact ⟨es, clock, hb, hs, hk, hl⟩
theorem RangeIs.lt (h : RangeIs P k w b r l todo) : r < w.heap.size := by
  obtain ⟨es, clock, _, _, _, _, _, _, _, hr, _⟩ := h
  exact (Array.getElem?_eq_some_iff.1 hr).1
theorem RangeIs.keep (h : RangeIs P k w b r l todo) (h1 : w'.heap[b]? = w.heap[b]?) (h2 : w'.heap[r]? = w.heap[r]?) : RangeIs P k w' b r l todo := by
  obtain ⟨es, clock, since, seen, c0, hb, hs, hk, hl, hr, rest⟩ := h
  exact ⟨es, clock, since, seen, c0, h1.trans hb, hs, hk, hl, h2.trans hr, rest⟩
theorem RangeIs.ne (h : RangeIs P k w b r l todo) : r ≠ b := by
  obtain ⟨es, clock, since, seen, c0, hb, _, _, _, hr, _⟩ := h
  rintro rfl
  rw [hb] at hr; cases hr
/-- 'range m' -/
theorem MapIs.range {t e : TypeId} (h : MapIs P k w b l) (ht : P.underlying t = some (.map k e)) :
    ∃ o, (Instr.range t (.map (some b))).run P w = .ok (.pointer (some ⟨w.heap.size, 0, none⟩)) (w.alloc o) ∧ RangeIs P k (w.alloc o) b w.heap.size l l := by
  have hlt := h.lt
  obtain ⟨es, clock, hb, hs, hk, rfl⟩ := h
  refine ⟨_, run_range_map w t k e b es clock ht hb, es, clock, clock, #[], clock, (Below.heap_alloc w _ b hlt).trans hb, hs, hk, rfl, heap_alloc_new w _, hs.1, Nat.le_refl _, Nat.le_refl _, ?_⟩
  have : leftOf es #[] = es := by unfold leftOf; exact Array.filter_eq_self.2 fun x _ => by simp
  rw [this]
/-- the step: nothing is left, or one of those that are left comes -/
theorem RangeIs.next (h : RangeIs P k w b r l todo) (ty : TypeId) :
    (todo = [] ∧ (Instr.next (.pointer (some ⟨r, 0, none⟩)) false ty).run P w = .ok (.tuple #[.bool false]) w) ∨
    ∃ p todo' w' o, todo.Perm (p :: todo') ∧ p ∈ l ∧ (w' = w ∨ w' = w.drew) ∧ (Instr.next (.pointer (some ⟨r, 0, none⟩)) false ty).run P w = .ok (.tuple #[.bool true, p.1, p.2]) (setBlock w' r o) ∧
      RangeIs P k (setBlock w' r o) b r l todo' ∧ ∀ w2 : World, w2.heap[b]? = w.heap[b]? → w2.heap[r]? = some o → (Instr.entry (.pointer (some ⟨r, 0, none⟩))).run P w2 = .ok (.tuple #[p.1, p.2]) w2 := by
  have hne := h.ne
  have hrlt := h.lt
  obtain ⟨es, clock, since, seen, c0, hb, hs, hk, rfl, hr, hold, hsc, hsk, rfl⟩ := h
  have hst := (stamped_iff es clock).1 hs
  rcases run_next_at (P := P) w ty r b since c0 seen es clock hr hb hold hsc with ⟨h0, hrun⟩ | ⟨e, he, w1, hal, hrun⟩
  · exact .inl ⟨by rw [Array.eq_empty_of_size_eq_zero h0]; rfl, hrun⟩
  · obtain ⟨hem, hes⟩ := mem_left he
    have hb1 : w1.heap[b]? = some (.map es clock) := by rcases hal with rfl | rfl <;> exact hb
    have hsz : r < w1.heap.size := by rcases hal with rfl | rfl <;> exact hrlt
    refine .inr ⟨pairOf e, (leftOf es (seen.push e.born)).toList.map pairOf, w1, _, (left_perm hst.2.1 he).map pairOf, List.mem_map.2 ⟨e, hem, rfl⟩, hal, hrun,
      ⟨es, clock, since, seen.push e.born, clock, (setBlock_other (Ne.symm hne)).trans hb1, hs, hk, rfl, setBlock_heap hsz, hold, hsk, hsk, rfl⟩, fun w2 h1 h2 => ?_⟩
    exact run_entry_at w2 r b since seen es clock e h2 (h1.trans hb) hem hst.2.1
/-- 'delete(m, key)' -/
theorem MapIs.drop {t e ty : TypeId} (h : MapIs P k w b l) (K : KeyLaw P k) (ht : P.underlying t = some (.map k e)) {key : Value} {kl : Lit} (hkey : keyOf P k key = some kl) :
    ∃ o l', (Builtin.delete_ #[t, k] ty #[.map (some b), key]).run P w = .ok (.tuple #[]) (setBlock w b o) ∧ MapIs P k (setBlock w b o) b l' ∧ l'.Sublist l ∧ ∀ p, p ∈ l' ↔ p ∈ l ∧ p.1 ≠ key := by
  have hlt := h.lt
  obtain ⟨es, clock, hb, hs, hk, rfl⟩ := h
  rcases K.find w hkey es.toList hk with ⟨h1, h2⟩ | ⟨j, e0, h1, h2, h3⟩
  · refine ⟨.map es clock, _, ?_, ⟨es, clock, setBlock_heap hlt, hs, hk, rfl⟩, List.Sublist.refl _, fun p => ⟨fun hp => ⟨hp, ?_⟩, fun hp => hp.1⟩⟩
    · simp [Builtin.delete_, run_underlying ht, MapKept.run_getObj_map hb, K.check w _ hkey, h1, MapKept.run_setObj_map _ hb, Result.andThen, setBlock]
    · obtain ⟨x, hx, rfl⟩ := List.mem_map.1 hp; exact h2 x hx
  · have hjl : j < es.toList.length := (List.getElem?_eq_some_iff.1 h2).1
    have hjs : j < es.size := by simpa using hjl
    have hsub : (es.eraseIdxIfInBounds j).toList = es.toList.eraseIdx j := by
      unfold Array.eraseIdxIfInBounds
      rw [dif_pos hjs]
      simp
    have hsl : (es.eraseIdxIfInBounds j).toList.Sublist es.toList := by rw [hsub]; exact List.eraseIdx_sublist _ _
    have hd : es.toList.Pairwise (fun x y => x.key ≠ y.key) := ((stamped_iff es clock).1 hs).2.2
    refine ⟨.map (es.eraseIdxIfInBounds j) clock, _, ?_, ⟨_, clock, setBlock_heap hlt, stamped_erase hs j, fun x hx => hk x (hsl.subset hx), rfl⟩, hsl.map _, fun p => ?_⟩
    · simp [Builtin.delete_, run_underlying ht, MapKept.run_getObj_map hb, K.check w _ hkey, h1, MapKept.run_setObj_map _ hb, Result.andThen, setBlock]
    · rw [hsub, List.mem_map, List.mem_map]
      have hother : ∀ x, x ∈ es.toList.eraseIdx j ↔ x ∈ es.toList ∧ x.key ≠ key := fun x => by
        rw [List.mem_eraseIdx_iff_getElem?]
        constructor
        · rintro ⟨i, hne, hi⟩
          refine ⟨List.mem_of_getElem? hi, fun e1 => ?_⟩
          obtain ⟨hj, rfl⟩ := List.getElem?_eq_some_iff.1 h2
          obtain ⟨hi', rfl⟩ := List.getElem?_eq_some_iff.1 hi
          have hp := List.pairwise_iff_getElem.1 hd
          rcases Nat.lt_trichotomy i j with c | c | c
          · exact hp i j hi' hj c (e1.trans h3.symm)
          · exact hne c
          · exact hp j i hj hi' c (h3.trans e1.symm)
        · rintro ⟨hx, hne⟩
          obtain ⟨i, hi⟩ := List.getElem?_of_mem hx
          refine ⟨i, fun e1 => hne ?_, hi⟩
          rw [e1, h2] at hi
          cases hi
          exact h3
      constructor
      · rintro ⟨x, hx, rfl⟩
        obtain ⟨a, c⟩ := (hother x).1 hx
        exact ⟨⟨x, a, rfl⟩, c⟩
      · rintro ⟨⟨x, hx, rfl⟩, c⟩
        exact ⟨x, (hother x).2 ⟨hx, c⟩, rfl⟩
end

section
variable {P : Program} {ops : Array Oper} {rest : List Oper} {o : Oper} {a : Act} {Q : Exit → Act → World → Prop} {k : TypeId} {w : World} {b r : Nat} {l todo : List (Value × Value)}
end
end Go.Proofs.YtihggkmjalofiaaGreatDoor

/- A call of a function value. No program in sight but as a variable. -/
namespace Go.Proofs.YtihggkmjalofiaaGreatDoor
open Go.RowKit

end Go.Proofs.YtihggkmjalofiaaGreatDoor
