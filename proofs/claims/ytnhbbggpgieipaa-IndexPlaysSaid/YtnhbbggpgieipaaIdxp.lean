/- The document's index: a patch that is put: walked. -/
import Derived.Test.YtnhbbggpgieipaaIdxo
namespace Go.Proofs.Ytnhbbggpgieipaa
open Go.RowKit

/-- the list with a patch that was put, or the same one; and the error's number -/
def RetRP (w : World) (G : Nat → Prop) (L : List PatV) (e0 : Nat) (e : Ending) (w' : World) : Prop := ∃ A c, e = .returned (.tuple #[.slice A L.length c, .int .i64 ((e0 : Nat) : Int)]) ∧ PatsIn w' (fun k => G k ∨ w.heap.size ≤ k) A L.length L ∧ Below w.heap.size w w'
theorem refE_1 {L : List PatV} {p : PatV} (h : patB p = false) : refE L p = 1 := by unfold refE; rw [h]; rfl
theorem refE_7 {L : List PatV} {p q : PatV} (h : patB p = true) (hf : findP L p.1 = some q) (e : q = p) : refE L p = 7 := by unfold refE; rw [if_pos h, hf]; simp only; rw [if_pos e]
theorem refE_8 {L : List PatV} {p q : PatV} (h : patB p = true) (hf : findP L p.1 = some q) (e : q ≠ p) : refE L p = 8 := by unfold refE; rw [if_pos h, hf]; simp only; rw [if_neg e]
theorem refE_9 {L : List PatV} {p : PatV} (h : patB p = true) (hf : findP L p.1 = none) (e : nextB (vecL L) p.1 = false) : refE L p = 9 := by unfold refE; rw [if_pos h, hf]; simp only; rw [e]; rfl
theorem refE_9d {L : List PatV} {p : PatV} (h : patB p = true) (hf : findP L p.1 = none) (e : nextB (vecL L) p.1 = true) (hd : (p.2.1.all fun d => (findP L d).isSome) = false) : refE L p = 9 := by unfold refE; rw [if_pos h, hf]; simp only; rw [if_pos e, hd]; rfl
theorem refE_0 {L : List PatV} {p : PatV} (h : patB p = true) (hf : findP L p.1 = none) (e : nextB (vecL L) p.1 = true) (hd : (p.2.1.all fun d => (findP L d).isSome) = true) : refE L p = 0 := by unfold refE; rw [if_pos h, hf]; simp only; rw [if_pos e, hd]; rfl
theorem retRP_no {w w' : World} {G : Nat → Prop} {L : List PatV} {p : PatV} {A : Option Addr} {c n : Nat} (hok : IdxOk L) (hI : PatsIn w G A L.length L) (hb : Below w.heap.size w w') (he : refE L p = n) (h0 : n ≠ 0) : RetRP w G (idxL L p) (idxE L p) (.returned (.tuple #[.slice A L.length c, .int .i64 ((n : Nat) : Int)])) w' := by
  have e1 : idxE L p = n := by rw [← refE_eq hok, he]
  have e2 : idxL L p = L := by unfold idxL; rw [if_neg (by rw [e1]; exact h0)]
  rw [e2]
  exact ⟨A, c, by rw [e1], (hI.ext hb).mono fun k e => .inl e, hb⟩
/-- what lies somewhere lies there among the blocks that there are -/
theorem PatIn.both {w : World} {G : Nat → Prop} {r : List Value} {p : PatV} (h : PatIn w G r p) : PatIn w (fun q => G q ∧ q < w.heap.size) r p := by
  obtain ⟨⟨A, c, A', c', e, h1, h2, i1, i2⟩, h3, h4⟩ := h
  refine ⟨⟨A, c, A', c', e, h1, h2, fun hn b o ea => ⟨i1 hn b o ea, ?_⟩, fun hn b o ea => ⟨i2 hn b o ea, ?_⟩⟩, h3, h4⟩
  · obtain ⟨b', o', e', hb, _⟩ := h1.sl.2 hn
    rw [ea] at e'; injection e' with e'; injection e' with e1 _; rw [e1]; exact hb
  · obtain ⟨b', o', e', hb, _⟩ := h2.sl.2 hn
    rw [ea] at e'; injection e' with e'; injection e' with e1 _; rw [e1]; exact hb
theorem PatsIn.both {w : World} {G : Nat → Prop} {A : Option Addr} {n : Nat} {l : List PatV} (h : PatsIn w G A n l) : PatsIn w (fun q => G q ∧ q < w.heap.size) A n l := by
  obtain ⟨rows, h1, h2⟩ := h.ex
  refine ⟨h.len, fun hn b o ea => ⟨h.inb hn b o ea, ?_⟩, rows, ⟨h1.1, fun k r p e1 e2 => (h1.2 k r p e1 e2).both⟩, h2⟩
  obtain ⟨b', o', e', hb, _⟩ := h2.2 hn
  rw [ea] at e'; injection e' with e'; injection e' with e1 _; rw [e1]; exact hb
set_option maxRecDepth 100000 in
set_option maxHeartbeats 8000000 in
theorem rput31_any (L : List PatV) (hok : IdxOk L) (p : PatV) (w : World) (G : Nat → Prop) (hG : ∀ k, G k → k < w.heap.size) (A : Option Addr) (c : Nat) (h : PatsIn w G A L.length L) (cs : List Value) (hp : PatIn w G cs p) (hn : L.length ≤ 10000) :
    Calls Try.prog 23 #[.slice A L.length c, .agg cs.toArray] w (RetRP w G (idxL L p) (idxE L p)) := by
  have H0 := Lib.hid h
  have HOK := Lib.hid hok
  have HPAT := Lib.hid hp
  have hG := Lib.hid hG
  have hnm : Hid (L.length ≤ maxLen) := by rw [Hid]; unfold maxLen; omega
  obtain ⟨⟨A1, c1, A2, c2, rfl, P1, _, _, _⟩, m1, _⟩ := hp
  unfold maxLen at m1
  have P1 := Lib.hid P1
  have K1 : Hid (Blk (w.alloc (.cells (patC p.1 A1 p.2.1.length c1 A2 p.2.2.length c2).toArray 45)) w.heap.size 45 (patC p.1 A1 p.2.1.length c1 A2 p.2.2.length c2).toArray) := Blk.new _ _ _
  have B0 : Hid (Below w.heap.size w (w.alloc (.cells (patC p.1 A1 p.2.1.length c1 A2 p.2.2.length c2).toArray 45))) := below_new _ _
  clear h hok
  go_enter Try.func23, Try.ntmps23
  go_upto_region 1 with fail
  generalize (w.alloc (.cells (patC p.1 A1 p.2.1.length c1 A2 p.2.2.length c2).toArray 45)) = w2 at *
  generalize w.heap.size = g1 at K1 ⊢
  have HG := Lib.hid (rgood18_any p w2 _ (HPAT.out.ext B0.out).at_)
  cases hg : patB p
  · rw [hg] at HG
    have N := Lib.hid (refE_1 (L := L) hg)
    clear hg
    go_wp2_with (refine wpList_load_row rfl 45 _ (by rfl) g1 (by rfl) _ _ _ _ K1.out underPat rfl infoPat ?_)
    refine HG.out.mono ?_
    rintro e w3 ⟨rfl, b3⟩
    have B3 := Lib.hid (B0.out.trans (b3.mono B0.out.size))
    clear b3 HG
    go_wp2
    go_ret2
    exact retRP_no HOK.out H0.out B3.out N.out (by decide)
  · rw [hg] at HG
    have hg := Lib.hid hg
    go_wp2_with (refine wpList_load_row rfl 45 _ (by rfl) g1 (by rfl) _ _ _ _ K1.out underPat rfl infoPat ?_)
    refine HG.out.mono ?_
    rintro e w3 ⟨rfl, b3⟩
    have B3 := Lib.hid (B0.out.trans (b3.mono B0.out.size))
    have K1 := Lib.hid (K1.out.ext b3)
    clear b3 HG B0
    have RP := Lib.hid (patC_pid K1.out)
    have H3 := Lib.hid (H0.out.ext B3.out)
    have hG3 := Lib.hid (fun k e => Nat.lt_of_lt_of_le (hG.out k e) B3.out.size)
    have HF := Lib.hid (rget31_any L p.1 w3 G hG3.out A L.length c H3.out hnm.out)
    cases hf : findP L p.1 with
    | some q =>
      rw [hf, getV_some hf] at HF
      have hf := Lib.hid hf
      go_wp2_with (refine wpList_load_mid rfl 41 _ (by rfl) g1 0 (by rfl) _ _ RP.out underPid rfl infoPid ?_)
      refine HF.out.mono ?_
      rintro e w4 ⟨cq, rfl, pq, b4⟩
      have PQ := Lib.hid pq
      have B4 := Lib.hid (B3.out.trans (b4.mono B3.out.size))
      have K1 := Lib.hid (K1.out.ext b4)
      obtain ⟨⟨A3, c3, A4, c4, rfl, _, _, _, _⟩, _, _⟩ := PQ.out
      clear b4 pq HF
      have K2 : Hid (Blk ((w4.alloc (.cells #[.int .u8 0, .int .u16 0, .slice none 0 0, .slice none 0 0] 45)).setRow w4.heap.size (patC q.1 A3 q.2.1.length c3 A4 q.2.2.length c4).toArray) w4.heap.size 45 (patC q.1 A3 q.2.1.length c3 A4 q.2.2.length c4).toArray) := (Blk.new _ _ _).row _
      have BA : Hid (Below w4.heap.size w4 ((w4.alloc (.cells #[.int .u8 0, .int .u16 0, .slice none 0 0, .slice none 0 0] 45)).setRow w4.heap.size (patC q.1 A3 q.2.1.length c3 A4 q.2.2.length c4).toArray)) := below_setRow ((Below.refl _ _).alloc (Nat.le_refl _) _) (Nat.le_refl _) _
      go_upto_region 4 with (first
        | (refine wpList_alloced (allocPat _) ?_)
        | (refine wpList_store_row rfl 45 _ _ (by rfl) w4.heap.size (patC q.1 A3 q.2.1.length c3 A4 q.2.2.length c4).toArray (by rfl) (by rfl) _ _ (Blk.new _ _ _) infoPat rfl patC_one ?_))
      generalize ((w4.alloc (.cells #[.int .u8 0, .int .u16 0, .slice none 0 0, .slice none 0 0] 45)).setRow w4.heap.size (patC q.1 A3 q.2.1.length c3 A4 q.2.2.length c4).toArray) = w5 at *
      have B5 := Lib.hid (B4.out.trans (BA.out.mono B4.out.size))
      have K1 := Lib.hid (K1.out.ext BA.out)
      have HS := Lib.hid (rpsame q p w5 _ _ (PQ.out.ext BA.out).at_ (HPAT.out.ext B5.out).at_)
      clear BA PQ B4
      generalize w4.heap.size = g2 at *
      by_cases hqp : q = p
      · have N := Lib.hid (refE_7 hg.out hf.out hqp)
        rw [decide_eq_true hqp] at HS
        clear hqp
        go_wp2_with (first
          | (refine wpList_load_rowG (by rfl) 45 _ (by rfl) g2 (by rfl) _ _ _ _ K2.out underPat rfl infoPat ?_)
          | (refine wpList_load_rowG (by rfl) 45 _ (by rfl) g1 (by rfl) _ _ _ _ K1.out underPat rfl infoPat ?_))
        refine HS.out.mono ?_
        rintro e w6 ⟨rfl, b6⟩
        have B6 := Lib.hid (B5.out.trans (b6.mono B5.out.size))
        clear b6 HS
        go_wp2
        go_ret2
        exact retRP_no HOK.out H0.out B6.out N.out (by decide)
      · have N := Lib.hid (refE_8 hg.out hf.out hqp)
        rw [decide_eq_false hqp] at HS
        clear hqp
        go_wp2_with (first
          | (refine wpList_load_rowG (by rfl) 45 _ (by rfl) g2 (by rfl) _ _ _ _ K2.out underPat rfl infoPat ?_)
          | (refine wpList_load_rowG (by rfl) 45 _ (by rfl) g1 (by rfl) _ _ _ _ K1.out underPat rfl infoPat ?_))
        refine HS.out.mono ?_
        rintro e w6 ⟨rfl, b6⟩
        have B6 := Lib.hid (B5.out.trans (b6.mono B5.out.size))
        clear b6 HS
        go_wp2
        go_ret2
        exact retRP_no HOK.out H0.out B6.out N.out (by decide)
    | none =>
      rw [hf, getV_none hf] at HF
      have hf := Lib.hid hf
      go_wp2_with (refine wpList_load_mid rfl 41 _ (by rfl) g1 0 (by rfl) _ _ RP.out underPid rfl infoPid ?_)
      refine HF.out.mono ?_
      rintro e w4 ⟨cq, rfl, pq, b4⟩
      have PQ := Lib.hid pq
      have B4 := Lib.hid (B3.out.trans (b4.mono B3.out.size))
      have K1 := Lib.hid (K1.out.ext b4)
      obtain ⟨⟨A3, c3, A4, c4, rfl, _, _, _, _⟩, _, _⟩ := PQ.out
      clear b4 pq HF RP
      have BA : Hid (Below w4.heap.size w4 ((w4.alloc (.cells #[.int .u8 0, .int .u16 0, .slice none 0 0, .slice none 0 0] 45)).setRow w4.heap.size (patC zeroPat.1 A3 zeroPat.2.1.length c3 A4 zeroPat.2.2.length c4).toArray)) := below_setRow ((Below.refl _ _).alloc (Nat.le_refl _) _) (Nat.le_refl _) _
      go_upto_region 8 with (first
        | (refine wpList_alloced (allocPat _) ?_)
        | (refine wpList_store_row rfl 45 _ _ (by rfl) w4.heap.size (patC zeroPat.1 A3 zeroPat.2.1.length c3 A4 zeroPat.2.2.length c4).toArray (by rfl) (by rfl) _ _ (Blk.new _ _ _) infoPat rfl patC_one ?_))
      generalize ((w4.alloc (.cells #[.int .u8 0, .int .u16 0, .slice none 0 0, .slice none 0 0] 45)).setRow w4.heap.size (patC zeroPat.1 A3 zeroPat.2.1.length c3 A4 zeroPat.2.2.length c4).toArray) = w5 at *
      have B5 := Lib.hid (B4.out.trans (BA.out.mono B4.out.size))
      have K1 := Lib.hid (K1.out.ext BA.out)
      clear BA PQ B4
      generalize w4.heap.size = g2 at *
      have H5 := Lib.hid (H0.out.ext B5.out)
      have RP := Lib.hid (patC_pid K1.out)
      have g1l : Hid (g1 < w5.heap.size) := K1.out.lt
      have q0 : ∀ z : Ext w5, z.w.cell? ⟨g1, 0, none⟩ = some (.int .u8 ((p.1.1.val : Nat) : Int)) := fun z => (K1.out.ext z.h).cell 0
      have HV := Lib.hid (fun z : Ext w5 => rvec31_any L z.w A L.length c (H5.out.ext z.h).at_ hnm.out)
      have HN := Lib.hid (fun u => rnext_any (vecL L) (vecL_ok L) p.1.1.val u)
      have NEQ := fun u => neqXY (nextV (vecL L) p.1.1.val).1 (nextV (vecL L) p.1.1.val).2 ((p.1.1.val : Nat) : Int) ((p.1.2.val : Nat) : Int) u
      cases hb : nextB (vecL L) p.1
      · have N := Lib.hid (refE_9 hg.out hf.out hb)
        have NEQ' : ∀ u : World, (binOp .neq 41 (.agg #[.int .u8 (nextV (vecL L) p.1.1.val).1, .int .u16 (nextV (vecL L) p.1.1.val).2]) (.agg (encP p.1).toArray)).run Try.prog u = .ok (.bool true) u := fun u => by
          refine (NEQ u).trans ?_
          have : (decide ((nextV (vecL L) p.1.1.val).1 = ((p.1.1.val : Nat) : Int)) && decide ((nextV (vecL L) p.1.1.val).2 = ((p.1.2.val : Nat) : Int))) = false := hb
          rw [this]; rfl
        clear NEQ hb
        refine wp_region_ext mixedS (by kernel_rfl) ?_
        repeat (first
          | (refine wpQuiet_load_mid (rangeAt_ext RP.out g1l.out) underPid rfl infoPid rfl rfl ?_; simp only [List.set_cons_succ, List.set_cons_zero])
          | go_big_quiet_step ((first
            | (go_at_call 27; exact ext_call (HV.out _))
            | (go_at_call 54; exact ext_call (HN.out _)))))
        refine wpQuiet_nil ?_
        rintro _ ⟨z, rfl⟩
        have B6 := Lib.hid (B5.out.trans (z.h.mono B5.out.size))
        generalize z.w = w6 at *
        clear q0
        go_wp2
        go_ret2
        exact retRP_no HOK.out H0.out B6.out N.out (by decide)
      · have NEQ' : ∀ u : World, (binOp .neq 41 (.agg #[.int .u8 (nextV (vecL L) p.1.1.val).1, .int .u16 (nextV (vecL L) p.1.1.val).2]) (.agg (encP p.1).toArray)).run Try.prog u = .ok (.bool false) u := fun u => by
          refine (NEQ u).trans ?_
          have : (decide ((nextV (vecL L) p.1.1.val).1 = ((p.1.1.val : Nat) : Int)) && decide ((nextV (vecL L) p.1.1.val).2 = ((p.1.2.val : Nat) : Int))) = true := hb
          rw [this]; rfl
        have hb := Lib.hid hb
        clear NEQ
        refine wp_region_ext mixedS (by kernel_rfl) ?_
        repeat (first
          | (refine wpQuiet_load_mid (rangeAt_ext RP.out g1l.out) underPid rfl infoPid rfl rfl ?_; simp only [List.set_cons_succ, List.set_cons_zero])
          | go_big_quiet_step ((first
            | (go_at_call 27; exact ext_call (HV.out _))
            | (go_at_call 54; exact ext_call (HN.out _)))))
        refine wpQuiet_nil ?_
        rintro _ ⟨z, rfl⟩
        have B6 := Lib.hid (B5.out.trans (z.h.mono B5.out.size))
        have K1 := Lib.hid (K1.out.ext z.h)
        generalize z.w = w6 at *
        clear q0 HV HN NEQ' H5 RP
        have g1l : Hid (g1 < w6.heap.size) := K1.out.lt
        have BS := Lib.hid (Below.refl w6.heap.size w6)
        go_wp2_with fail
        go_loopw [8] (fun i wr => ∃ k : Nat, k ≤ p.2.1.length ∧ i = .int .i64 k ∧ Hid ((p.2.1.take k).all (fun d => (findP L d).isSome) = true) ∧ Hid (Below w6.heap.size w6 wr)) (fun i _ => p.2.1.length - (intOf i).toNat)
        case atStart => exact ⟨0, by omega, rfl, rfl, BS.out⟩
        case round =>
          clear BS
          obtain ⟨k, hk, rfl, T, B⟩ := hrel
          have hk0 : (0 : Int) ≤ (k : Int) := by omega
          have KR := Lib.hid (K1.out.ext B.out)
          have BW := Lib.hid (B6.out.trans (B.out.mono B6.out.size))
          have a2 : wr.cell? ⟨g1, 2, none⟩ = some (.slice A1 p.2.1.length c1) := KR.out.cell 2
          by_cases hlt : k < p.2.1.length
          · have hlk : (k : Int) < (p.2.1.length : Int) := by omega
            obtain ⟨b, o, x, rfl, hb', hx, R⟩ := (P1.out.ext BW.out).at_ hlt
            have R := Lib.hid R
            have HD := Lib.hid (rget31_any L x wr G (fun k e => Nat.lt_of_lt_of_le (hG.out k e) BW.out.size) A L.length c (H0.out.ext BW.out) hnm.out)
            cases hfx : findP L x with
            | none =>
              rw [hfx, getV_none hfx] at HD
              have N := Lib.hid (refE_9d hg.out hf.out hb.out (allL_false hx (by rw [hfx]; rfl)))
              clear hfx hx T
              go_wp2_with (refine wpList_load_mid rfl 41 _ (by rfl) b (o + k * 2) (by rfl) _ _ R.out underPid rfl infoPid ?_)
              refine HD.out.mono ?_
              rintro e w7 ⟨cq, rfl, pq, b7⟩
              have PQ := Lib.hid pq
              have B7 := Lib.hid (BW.out.trans (b7.mono BW.out.size))
              obtain ⟨⟨A3, c3, A4, c4, rfl, _, _, _, _⟩, _, _⟩ := PQ.out
              clear b7 pq HD R a2
              have BA : Hid (Below w7.heap.size w7 ((w7.alloc (.cells #[.int .u8 0, .int .u16 0, .slice none 0 0, .slice none 0 0] 45)).setRow w7.heap.size (patC zeroPat.1 A3 zeroPat.2.1.length c3 A4 zeroPat.2.2.length c4).toArray)) := below_setRow ((Below.refl _ _).alloc (Nat.le_refl _) _) (Nat.le_refl _) _
              go_wp2_with (first
                | (refine wpList_alloced (allocPat _) ?_)
                | (refine wpList_store_row rfl 45 _ _ (by rfl) w7.heap.size (patC zeroPat.1 A3 zeroPat.2.1.length c3 A4 zeroPat.2.2.length c4).toArray (by rfl) (by rfl) _ _ (Blk.new _ _ _) infoPat rfl patC_one ?_))
              go_ret2
              exact retRP_no HOK.out H0.out (B7.out.trans (BA.out.mono B7.out.size)) N.out (by decide)
            | some q =>
              rw [hfx, getV_some hfx] at HD
              have N := Lib.hid (allL_snoc hx T.out (show (findP L x).isSome = true by rw [hfx]; rfl))
              clear hfx hx T
              go_wp2_with (refine wpList_load_mid rfl 41 _ (by rfl) b (o + k * 2) (by rfl) _ _ R.out underPid rfl infoPid ?_)
              refine HD.out.mono ?_
              rintro e w7 ⟨cq, rfl, pq, b7⟩
              have PQ := Lib.hid pq
              have B7 := Lib.hid (B.out.trans (b7.mono B.out.size))
              obtain ⟨⟨A3, c3, A4, c4, rfl, _, _, _, _⟩, _, _⟩ := PQ.out
              clear b7 pq HD R a2
              have BA : Hid (Below w7.heap.size w7 ((w7.alloc (.cells #[.int .u8 0, .int .u16 0, .slice none 0 0, .slice none 0 0] 45)).setRow w7.heap.size (patC q.1 A3 q.2.1.length c3 A4 q.2.2.length c4).toArray)) := below_setRow ((Below.refl _ _).alloc (Nat.le_refl _) _) (Nat.le_refl _) _
              go_wp2_with (first
                | (refine wpList_alloced (allocPat _) ?_)
                | (refine wpList_store_row rfl 45 _ _ (by rfl) w7.heap.size (patC q.1 A3 q.2.1.length c3 A4 q.2.2.length c4).toArray (by rfl) (by rfl) _ _ (Blk.new _ _ _) infoPat rfl patC_one ?_))
              go_roundw
              case rel => exact ⟨k + 1, by omega, by go_num, N.out, B7.out.trans (BA.out.mono B7.out.size)⟩
              case measure => simp [intOf]; omega
          · have hk' : k = p.2.1.length := by omega
            subst hk'
            rw [List.take_length] at T
            have N := Lib.hid (refE_0 hg.out hf.out hb.out T.out)
            have HR := Lib.hid (H0.out.ext BW.out)
            have PR := Lib.hid (HPAT.out.ext BW.out)
            obtain ⟨rows, r1, r2⟩ := HR.out.ex
            have R1 := Lib.hid r1
            have R2 := Lib.hid r2
            have hone : Hid (∀ u ∈ rows.flatten, u.oneCell' = true) := by
              intro u hu
              obtain ⟨r, hr, hur⟩ := List.mem_flatten.1 hu
              obtain ⟨j, hj, rfl⟩ := List.getElem_of_mem hr
              have hj' : j < L.length := by rw [← R1.out.1]; exact hj
              exact (R1.out.2 j _ _ (List.getElem?_eq_getElem hj) (List.getElem?_eq_getElem hj')).one u hur
            have ON := Lib.hid (World.ownsRow_nil wr wr.heap.size 45 4)
            clear r1 r2 T
            go_upto_region 18 with (at_builtin; refine wpList_cat patSl ON.out R2.out hone.out (Nat.le_refl _) (by omega) (by unfold maxLen; omega) (by rfl) (by rfl) ?_; intro v7 w7 own7 bel7)
            have OW := Lib.hid own7
            have B7 := Lib.hid (BW.out.trans (bel7.mono BW.out.size))
            have KR7 := Lib.hid (KR.out.below bel7 KR.out.lt)
            have PR7 := Lib.hid (PR.out.ext bel7)
            have RI7 := Lib.hid (R1.out.stay (Stay.of_below bel7))
            have h7 := Lib.hid bel7.size
            clear own7 bel7 ON R2 R1 a2
            simp only [Nat.zero_add, List.nil_append] at OW
            go_wp2_with (first
              | (refine wpList_load_row rfl 45 _ (by rfl) g1 (by rfl) _ _ _ _ KR7.out underPat rfl infoPat ?_)
              | (refine wpList_lit1 patSl PR7.out.len4 (by omega) (by rfl) ?_)
              | (at_builtin; refine wpList_pushF patSl OW.out (patC p.1 A1 p.2.1.length c1 A2 p.2.2.length c2) PR7.out.len4 PR7.out.one h7.out (by omega) (by unfold maxLen; omega) (by rfl) (by rfl) (by rfl) ?_; intro v8 w8 own8 kep8 new8))
            have E := refE_eq HOK.out p
            rw [N.out] at E
            have E2 : idxL L p = L ++ [p] := if_pos E.symm
            obtain ⟨A5, c5, rfl, hc5, hs5⟩ := Sl.of_own own8
            have own8 := Lib.hid own8
            have kep8 := Lib.hid kep8
            have hs5 := Lib.hid hs5
            have E2 := Lib.hid E2
            have E := Lib.hid E
            go_wp2
            go_ret2
            rw [E2.out, ← E.out]
            have st : Stay G w7 w8 := kep8.out.stay fun k _ hd e => by have := hG.out k hd; have := (OW.out.lt k e).1; have := BW.out.size; omega
            refine ⟨A5, c5, by simp, ⟨rfl, ?_, rows ++ [patC p.1 A1 p.2.1.length c1 A2 p.2.2.length c2], ((RI7.out.snoc PR7.out).stay st).mono fun k e => .inl e, ?_⟩, B7.out.trans (kep8.out.below (fun k e => Nat.le_trans BW.out.size (OW.out.lt k e).1) B7.out.size)⟩
            · intro _ b o e
              subst e
              exact .inr (Nat.le_trans BW.out.size (own8.out.lt b rfl).1)
            · rw [List.length_append, List.flatten_append]
              simpa using hs5.out
end Go.Proofs.Ytnhbbggpgieipaa
