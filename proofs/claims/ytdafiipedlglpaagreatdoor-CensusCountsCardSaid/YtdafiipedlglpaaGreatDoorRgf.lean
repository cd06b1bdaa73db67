/- The document's graph: an error: walked. -/
import Derived.Test.YtdafiipedlglpaaGreatDoorRgs
import Derived.Test.YtdafiipedlglpaaGreatDoorGrns
import Derived.Test.YtdafiipedlglpaaGreatDoorVrefs
import Derived.Test.YtdafiipedlglpaaGreatDoorGrhs
import Derived.Test.YtdafiipedlglpaaGreatDoorIdxy
namespace Go.Proofs.YtdafiipedlglpaaGreatDoor
open Go.RowKit

theorem allocG20 (w : World) : (Instr.alloc 182 true (.tuple #[])).run Tryz.prog w = .ok (.pointer (some ⟨w.heap.size, 0, none⟩)) (w.alloc (.cells #[.slice none 0 0] 182)) := by kernel_rfl
theorem buildG20 (A : Option Addr) (n c : Nat) (w : World) : (Instr.build 182 #[(0, .slice A n c)]).run Tryz.prog w = .ok (.agg #[.slice A n c]) w := by kernel_rfl
theorem blk_not_own {w : World} {g base size n : Nat} {t e : TypeId} {cs : Array Value} {v : Value} {xs : List Value} (K : Blk w g t cs) (ht : t ≠ e) (h : w.ownsRow base e size v n xs) : ¬ v.ownBlock = some g := fun e' => by
  obtain ⟨cur, hc⟩ := own_type h e'
  unfold Blk at K
  rw [K] at hc
  injection hc with hc
  injection hc with _ h2 _
  exact ht h2
theorem sl_lit {w : World} {g size : Nat} {t : TypeId} {cs : List Value} (K : Blk w g t cs.toArray) (hl : cs.length = size) : Sl w w.heap.size size (some ⟨g, 0, none⟩) 1 cs :=
  ⟨by rw [hl, Nat.one_mul], fun _ => ⟨g, 0, rfl, K.lt, fun j _ => by rw [Nat.zero_add, K.cell]; simp⟩⟩
theorem patsAt_built {w w' : World} {A : Option Addr} {n c ga : Nat} {rows : List (List Value)} {cs : List Value} {L : List PatV} {p : PatV} {gs : Array Value} (RI : RowsIn w (fun k => k < w.heap.size) rows L) (PI : PatIn w (fun k => k < w.heap.size) cs p) (hn : L.length = n) (b : Below w.heap.size w w')
    (o : w'.ownsRow w.heap.size 64 4 (.slice A (n + 1) c) (n + 1) (rows.flatten ++ cs)) (K : Blk w' ga 182 gs) (hga : w.heap.size ≤ ga) (x : Array Value) : PatsAt (w'.setRow ga x) A (n + 1) (L ++ [p]) := by
  have hno := blk_not_own K (by decide) o
  have G1 : ∀ k, k < w.heap.size → k ≠ ga := fun k h e => by omega
  have R' : RowsIn w' (fun k => k ≠ ga) rows L := (RI.stay (Stay.of_below b)).mono G1
  have P' : PatIn w' (fun k => k ≠ ga) cs p := (PI.stay (Stay.of_below b)).mono G1
  obtain ⟨A', c', e, _, hs⟩ := Sl.of_own o
  cases e
  have X : PatsIn w' (fun k => k ≠ ga) A (n + 1) (L ++ [p]) := ⟨by simp [hn], fun _ b o e e2 => hno (by rw [e, e2]; rfl), rows ++ [cs], R'.snoc P', by rw [List.flatten_append]; simpa using hs⟩
  exact (X.stay ((Kept.row20 (F := fun k => k = ga) (Kept.refl _ _) (.inl rfl) x).stay fun k _ h e => h e)).at_
section
variable {A : List PatV} {o : OpV}
theorem opR_1 (h : o.1.val = 1) : opR A o = true := by
  unfold opR
  rw [if_neg (fun c => c.1 h), if_neg (by omega), if_neg (by omega)]
theorem opR_no (h : o.1.val ≠ 1) (hs : (vertV A o.2.1).isSome = false) : opR A o = false := by unfold opR; rw [if_pos ⟨h, hs⟩]
theorem opR_23 (h : o.1.val = 2 ∨ o.1.val = 3) (hs : (vertV A o.2.1).isSome = true) : opR A o = decide ((vertD A o.2.1).2.1.val = 1) := by
  unfold opR
  rw [if_neg (by rw [hs]; simp)]
  by_cases hk : (vertD A o.2.1).2.1.val = 1
  · rw [if_neg (fun c => c.2 hk), if_neg (by omega), decide_eq_true hk]
  · rw [if_pos ⟨h, hk⟩, decide_eq_false hk]
theorem opR_5 (h : o.1.val = 5) (hs : (vertV A o.2.1).isSome = true) : opR A o = true := by
  unfold opR
  rw [if_neg (by rw [hs]; simp), if_neg (by omega), if_neg (by omega)]
theorem opR_4 (h : o.1.val = 4) (hs : (vertV A o.2.1).isSome = true) : opR A o = (isR A o.2.1 3 && (isR A o.2.2.1 3 && decide ((vertD A o.2.1).2.2.1 = (vertD A o.2.2.1).2.2.1))) := by
  unfold opR
  rw [if_neg (by rw [hs]; simp), if_neg (by omega)]
  cases h3 : isR A o.2.1 3
  · rw [if_pos ⟨h, .inl rfl⟩]; rfl
  · cases h4 : isR A o.2.2.1 3
    · rw [if_pos ⟨h, .inr (.inl rfl)⟩]; rfl
    · by_cases hf : (vertD A o.2.1).2.2.1 = (vertD A o.2.2.1).2.2.1
      · rw [if_neg (by simp [hf]), decide_eq_true hf]; rfl
      · rw [if_pos ⟨h, .inr (.inr hf)⟩, decide_eq_false hf]; rfl
end
theorem neqf20 {x y : VidV} (h : x = y) (u : World) : (binOp .neq 98 (.agg (encV x).toArray) (.agg (encV y).toArray)).run Tryz.prog u = .ok (.bool false) u := by rw [neqVQ, decide_eq_true h]; rfl
theorem neqt20 {x y : VidV} (h : ¬ x = y) (u : World) : (binOp .neq 98 (.agg (encV x).toArray) (.agg (encV y).toArray)).run Tryz.prog u = .ok (.bool true) u := by rw [neqVQ, decide_eq_false h]; rfl
set_option maxRecDepth 100000 in
set_option maxHeartbeats 16000000 in
theorem rcheck20_any (L : List PatV) (p : PatV) (w : World) (G : Nat → Prop) (hG : ∀ k, G k → k < w.heap.size) (A : Option Addr) (n c : Nat) (h : PatsIn w G A n L) (cs : List Value) (hp : PatIn w G cs p) (hn : n ≤ 10000) :
    Calls Tryz.prog 177 #[.agg #[.slice A n c], .agg cs.toArray] w (RetB w (.int .i64 ((refK L p : Nat) : Int))) := by
  have H0 := Lib.hid h
  have HPAT := Lib.hid hp
  have hG := Lib.hid hG
  have hln := Lib.hid h.len
  have hnm : Hid (n ≤ maxLen) := by rw [Hid]; unfold maxLen; omega
  obtain ⟨⟨A1, c1, A2, c2, rfl, P1, O1, _, _⟩, m1, m2⟩ := hp
  unfold maxLen at m1 m2
  have P1 := Lib.hid P1
  have O1 := Lib.hid O1
  have KG : Hid (Blk ((w.alloc (.cells #[.slice A n c] 182)).alloc (.cells (patC p.1 A1 p.2.1.length c1 A2 p.2.2.length c2).toArray 64)) w.heap.size 182 #[.slice A n c]) := (Blk.new _ _ _).alloc _
  have KP : Hid (Blk ((w.alloc (.cells #[.slice A n c] 182)).alloc (.cells (patC p.1 A1 p.2.1.length c1 A2 p.2.2.length c2).toArray 64)) (w.heap.size + 1) 64 (patC p.1 A1 p.2.1.length c1 A2 p.2.2.length c2).toArray) := Blk.newAt (by simp) _ _
  have B0 : Hid (Below w.heap.size w ((w.alloc (.cells #[.slice A n c] 182)).alloc (.cells (patC p.1 A1 p.2.1.length c1 A2 p.2.2.length c2).toArray 64))) := ((Below.refl _ _).alloc (Nat.le_refl _) _).alloc (by simp) _
  clear h
  go_enter Tryz.func177, Tryz.ntmps177
  go_upto_region 1 with fail
  generalize ((w.alloc (.cells #[.slice A n c] 182)).alloc (.cells (patC p.1 A1 p.2.1.length c1 A2 p.2.2.length c2).toArray 64)) = w2 at *
  obtain ⟨g1, hg1⟩ : ∃ g, g = w.heap.size + 1 := ⟨_, rfl⟩
  obtain ⟨gg, hgg⟩ : ∃ g, g = w.heap.size := ⟨_, rfl⟩
  rw [← hg1] at KP ⊢
  rw [← hgg] at KG ⊢
  replace hg1 := Lib.hid hg1
  replace hgg := Lib.hid hgg
  have HGD := Lib.hid (rgood18_any p w2 _ (HPAT.out.ext B0.out).at_)
  cases hg : patB p
  · rw [hg] at HGD
    have N := Lib.hid (refK_1 (L := L) hg)
    clear hg
    go_wp2_with (refine wpList_load_row rfl 64 _ (by rfl) g1 (by rfl) _ _ _ _ KP.out underPat rfl infoPat ?_)
    refine HGD.out.mono ?_
    rintro e w3 ⟨rfl, b3⟩
    have B3 := Lib.hid (B0.out.trans (b3.mono B0.out.size))
    clear b3 HGD
    go_wp2_with fail
    go_ret
    exact ⟨by rw [N.out]; rfl, B3.out⟩
  rw [hg] at HGD
  have hkinds : Hid (∀ (k : Nat) o, p.2.2[k]? = some o → 1 ≤ o.1.val ∧ o.1.val ≤ 5) := fun k o ho => goodO_kind (oneR_parts ((patB_parts hg).2.2.2 k o ho)).1
  have hg := Lib.hid hg
  go_wp2_with (refine wpList_load_row rfl 64 _ (by rfl) g1 (by rfl) _ _ _ _ KP.out underPat rfl infoPat ?_)
  refine HGD.out.mono ?_
  rintro e w3 ⟨rfl, b3⟩
  have B3 := Lib.hid (B0.out.trans (b3.mono B0.out.size))
  have KP := Lib.hid (KP.out.ext b3)
  have KG := Lib.hid (KG.out.ext b3)
  clear b3 HGD B0
  have RP := Lib.hid (patC_pid KP.out)
  have HH := Lib.hid (rhas20_any L w3 A n c hnm.out (H0.out.ext B3.out).at_ p.1)
  go_upto_region 3 with fail
  cases hh : hasR20 L p.1
  case true =>
    rw [hh] at HH
    have N := Lib.hid (refK_7 hg.out hh)
    clear hh
    go_wp2_with (first
      | (refine wpList_load_row rfl 182 _ (by rfl) gg (by rfl) _ _ _ _ KG.out underG20 rfl infoG20 ?_)
      | (refine wpList_load_mid rfl 60 _ (by rfl) g1 0 (by rfl) _ _ RP.out underPid rfl infoPid ?_))
    refine HH.out.mono ?_
    rintro e w4 ⟨rfl, b4⟩
    have B4 := Lib.hid (B3.out.trans (b4.mono B3.out.size))
    clear b4 HH
    go_wp2_with fail
    go_ret
    exact ⟨by rw [N.out]; rfl, B4.out⟩
  rw [hh] at HH
  have hh := Lib.hid hh
  go_wp2_with (first
    | (refine wpList_load_row rfl 182 _ (by rfl) gg (by rfl) _ _ _ _ KG.out underG20 rfl infoG20 ?_)
    | (refine wpList_load_mid rfl 60 _ (by rfl) g1 0 (by rfl) _ _ RP.out underPid rfl infoPid ?_))
  refine HH.out.mono ?_
  rintro e w5 ⟨rfl, b4⟩
  have B5 := Lib.hid (B3.out.trans (b4.mono B3.out.size))
  have KP := Lib.hid (KP.out.ext b4)
  have KG := Lib.hid (KG.out.ext b4)
  clear b4 HH RP B3
  go_upto_region 5 with fail
  have H5 := Lib.hid (H0.out.ext B5.out)
  have RP := Lib.hid (patC_pid KP.out)
  have RG := Lib.hid (blk_pat (cs := [.slice A n c]) KG.out)
  have g1l : Hid (g1 < w5.heap.size) := KP.out.lt
  have ggl : Hid (gg < w5.heap.size) := KG.out.lt
  have q0 : ∀ z : Ext w5, z.w.cell? ⟨g1, 0, none⟩ = some (.int .u8 ((p.1.1.val : Nat) : Int)) := fun z => (KP.out.ext z.h).cell 0
  have HV := Lib.hid (fun z : Ext w5 => rvec20_any L z.w A n c (H5.out.ext z.h).at_ hnm.out)
  have HN := Lib.hid (fun u => rnext_any (vecL L) (vecL_ok L) p.1.1.val u)
  have NEQ := fun u => neqXYg (nextV (vecL L) p.1.1.val).1 (nextV (vecL L) p.1.1.val).2 p.1 u
  cases hb : nextB (vecL L) p.1
  case false =>
    have N := Lib.hid (refK_9 hg.out hh.out hb)
    have NEQ' : ∀ u : World, (binOp .neq 60 (.agg #[.int .u8 (nextV (vecL L) p.1.1.val).1, .int .u16 (nextV (vecL L) p.1.1.val).2]) (.agg (encP p.1).toArray)).run Tryz.prog u = .ok (.bool true) u := fun u => by
      refine (NEQ u).trans ?_
      have : (decide ((nextV (vecL L) p.1.1.val).1 = ((p.1.1.val : Nat) : Int)) && decide ((nextV (vecL L) p.1.1.val).2 = ((p.1.2.val : Nat) : Int))) = false := hb
      rw [this]; rfl
    clear NEQ hb
    refine wp_region_ext mixedS (by kernel_rfl) ?_
    repeat (first
      | (refine wpQuiet_load_mid (rangeAt_ext RG.out ggl.out) underG20 rfl infoG20 rfl rfl ?_; simp only [List.set_cons_succ, List.set_cons_zero])
      | (refine wpQuiet_load_mid (rangeAt_ext RP.out g1l.out) underPid rfl infoPid rfl rfl ?_; simp only [List.set_cons_succ, List.set_cons_zero])
      | go_big_quiet_step ((first
        | (go_at_call 215; exact ext_call (HV.out _))
        | (go_at_call 214; exact ext_call (HN.out _)))))
    refine wpQuiet_nil ?_
    rintro _ ⟨z, rfl⟩
    have B6 := Lib.hid (B5.out.trans (z.h.mono B5.out.size))
    generalize z.w = w6 at *
    clear q0
    go_wp2_with fail
    go_ret
    exact ⟨by rw [N.out]; rfl, B6.out⟩
  have NEQ' : ∀ u : World, (binOp .neq 60 (.agg #[.int .u8 (nextV (vecL L) p.1.1.val).1, .int .u16 (nextV (vecL L) p.1.1.val).2]) (.agg (encP p.1).toArray)).run Tryz.prog u = .ok (.bool false) u := fun u => by
    refine (NEQ u).trans ?_
    have : (decide ((nextV (vecL L) p.1.1.val).1 = ((p.1.1.val : Nat) : Int)) && decide ((nextV (vecL L) p.1.1.val).2 = ((p.1.2.val : Nat) : Int))) = true := hb
    rw [this]; rfl
  have hb := Lib.hid hb
  clear NEQ
  refine wp_region_ext mixedS (by kernel_rfl) ?_
  repeat (first
    | (refine wpQuiet_load_mid (rangeAt_ext RG.out ggl.out) underG20 rfl infoG20 rfl rfl ?_; simp only [List.set_cons_succ, List.set_cons_zero])
    | (refine wpQuiet_load_mid (rangeAt_ext RP.out g1l.out) underPid rfl infoPid rfl rfl ?_; simp only [List.set_cons_succ, List.set_cons_zero])
    | go_big_quiet_step ((first
      | (go_at_call 215; exact ext_call (HV.out _))
      | (go_at_call 214; exact ext_call (HN.out _)))))
  refine wpQuiet_nil ?_
  rintro _ ⟨z, rfl⟩
  have B6 := Lib.hid (B5.out.trans (z.h.mono B5.out.size))
  have KP := Lib.hid (KP.out.ext z.h)
  have KG := Lib.hid (KG.out.ext z.h)
  generalize z.w = w6 at *
  clear q0 HV HN NEQ' H5 RP RG g1l ggl B5
  have BS := Lib.hid (Below.refl w6.heap.size w6)
  go_wp2_with fail
  go_loopw [5] (fun i wr => ∃ k : Nat, k ≤ p.2.1.length ∧ i = .int .i64 k ∧ Hid ((p.2.1.take k).all (hasR20 L) = true) ∧ Hid (Below w6.heap.size w6 wr)) (fun i _ => p.2.1.length - (intOf i).toNat)
  case atStart => exact ⟨0, by omega, rfl, rfl, BS.out⟩
  case round =>
    clear BS
    obtain ⟨k, hk, rfl, TT, B⟩ := hrel
    have hk0 : (0 : Int) ≤ (k : Int) := by omega
    have KR := Lib.hid (KP.out.ext B.out)
    have KGr := Lib.hid (KG.out.ext B.out)
    have BW := Lib.hid (B6.out.trans (B.out.mono B6.out.size))
    have a2 : wr.cell? ⟨g1, 2, none⟩ = some (.slice A1 p.2.1.length c1) := KR.out.cell 2
    by_cases hlt : k < p.2.1.length
    · have hlk : (k : Int) < (p.2.1.length : Int) := by omega
      obtain ⟨b, o, x, rfl, hb', hx, R⟩ := (P1.out.ext BW.out).at_ hlt
      have R := Lib.hid R
      have hbl : Hid (b < wr.heap.size) := hb'
      have RG := Lib.hid (blk_pat (cs := [.slice A n c]) KGr.out)
      have ggl : Hid (gg < wr.heap.size) := KGr.out.lt
      have HD := Lib.hid (fun z : Ext wr => rhas20_any L z.w A n c hnm.out ((H0.out.ext BW.out).ext z.h).at_ x)
      go_upto_region 10 with fail
      clear a2
      have a2 : ∀ z : Ext wr, z.w.cell? ⟨g1, 2, none⟩ = some (.slice (some ⟨b, o, none⟩) p.2.1.length c1) := fun z => (KR.out.ext z.h).cell 2
      cases hf : hasR20 L x
      case false =>
        rw [hf] at HD
        have N := Lib.hid (refK_9d hg.out hh.out hb.out (allL_false hx hf))
        clear hf hx TT
        refine wp_region_ext mixedS (by kernel_rfl) ?_
        repeat (first
          | (refine wpQuiet_load_mid (rangeAt_ext RG.out ggl.out) underG20 rfl infoG20 rfl rfl ?_; simp only [List.set_cons_succ, List.set_cons_zero])
          | (refine wpQuiet_load_mid (rangeAt_ext R.out hbl.out) underPid rfl infoPid rfl rfl ?_; simp only [List.set_cons_succ, List.set_cons_zero])
          | go_big_quiet_step ((go_at_call 213; exact ext_call (HD.out _))))
        refine wpQuiet_nil ?_
        rintro _ ⟨z, rfl⟩
        have B7 := Lib.hid (BW.out.trans (z.h.mono BW.out.size))
        generalize z.w = w7 at *
        clear a2
        go_wp2_with fail
        go_ret
        exact ⟨by rw [N.out]; rfl, B7.out⟩
      rw [hf] at HD
      have N := Lib.hid (allL_snoc hx TT.out hf)
      clear hf hx TT
      refine wp_region_ext mixedS (by kernel_rfl) ?_
      repeat (first
        | (refine wpQuiet_load_mid (rangeAt_ext RG.out ggl.out) underG20 rfl infoG20 rfl rfl ?_; simp only [List.set_cons_succ, List.set_cons_zero])
        | (refine wpQuiet_load_mid (rangeAt_ext R.out hbl.out) underPid rfl infoPid rfl rfl ?_; simp only [List.set_cons_succ, List.set_cons_zero])
        | go_big_quiet_step ((go_at_call 213; exact ext_call (HD.out _))))
      refine wpQuiet_nil ?_
      rintro _ ⟨z, rfl⟩
      have B7 := Lib.hid (B.out.trans (z.h.mono B.out.size))
      generalize z.w = w7 at *
      clear a2
      go_wp2_with fail
      go_roundw
      case rel => exact ⟨k + 1, by omega, by go_num, N.out, B7.out⟩
      case measure => simp [intOf]; omega
    · have hlk : ¬ (k : Int) < (p.2.1.length : Int) := by omega
      have hk' : k = p.2.1.length := by omega
      subst hk'
      rw [List.take_length] at TT
      have TD := TT
      obtain ⟨w8, rfl⟩ : ∃ wx, wx = wr := ⟨_, rfl⟩
      have H8 := Lib.hid ((H0.out.ext BW.out).mono fun k e => Nat.lt_of_lt_of_le (hG.out k e) BW.out.size)
      have PI8 := Lib.hid ((HPAT.out.ext BW.out).mono fun k e => Nat.lt_of_lt_of_le (hG.out k e) BW.out.size)
      have KP8 := KR
      have KG8 := KGr
      have hln8 := hln
      obtain ⟨rows, r1, r2⟩ := H8.out.ex
      have RI8 := Lib.hid r1
      have SL8 := Lib.hid r2
      have one8 : ∀ u ∈ rows.flatten, u.oneCell' = true := by
        intro u hu
        obtain ⟨r, hr, hur⟩ := List.mem_flatten.1 hu
        obtain ⟨j, hj, rfl⟩ := List.getElem_of_mem hr
        have hj' : j < L.length := by rw [← RI8.out.1]; exact hj
        exact (RI8.out.2 j _ _ (List.getElem?_eq_getElem hj) (List.getElem?_eq_getElem hj')).one u hur
      have one8 := Lib.hid one8
      clear r1 r2 TT H8 KR KGr B B6 KP KG hlt hk
      go_upto_region 12 with fail
      clear a2
      go_cut [6] (fun pv wx => ∃ ga Aq cq, pv = .pointer (some ⟨ga, 0, none⟩) ∧ Blk wx ga 182 #[.slice Aq (n + 1) cq] ∧ PatsAt wx Aq (n + 1) (L ++ [p]) ∧ Below w8.heap.size w8 wx)
      case first =>
        refine wp_region_held (S := fun w' => Below w8.heap.size w8 w') mixedS ?_
        change wpAnyH _ _ _ _ _ _ _ _ w8.drew
        have B8 : Hid (Below w8.heap.size w8 w8.drew) := (Below.refl _ _).drew
        generalize w8.drew = w9 at B8 ⊢
        simp only [List.size_toArray, List.length_cons, List.length_nil]
        refine takeV (i := 1) (d := 45) (v := .pointer (some ⟨gg, 0, none⟩)) rfl (by kernel_rfl) (by kernel_rfl) (by kernel_rfl) (fun _ _ _ h => h) rfl (fun w' _ => exField rfl (fieldG20 gg w')) B8.out ?_
        simp only [Act.put, List.setIfInBounds_toArray, List.set_cons_zero, List.set_cons_succ]
        refine takeV (i := 2) (d := 46) (v := .slice A n c) rfl (by kernel_rfl) (by kernel_rfl) (by kernel_rfl) (fun _ _ _ h => h) rfl (fun w' h => exLoad rfl (loadPats20 gg 0 w' _ _ _ ((KG8.out.ext h).cell 0))) B8.out ?_
        simp only [Act.put, List.setIfInBounds_toArray, List.set_cons_zero, List.set_cons_succ]
        refine takeV (i := 4) (d := 48) (v := .agg (patC p.1 A1 p.2.1.length c1 A2 p.2.2.length c2).toArray) rfl (by kernel_rfl) (by kernel_rfl) (by kernel_rfl) (fun _ _ _ h => h) rfl (fun w' h => exMid rfl (blk_pat (KP8.out.ext h)) underPat rfl infoPat) B8.out ?_
        simp only [Act.put, List.setIfInBounds_toArray, List.set_cons_zero, List.set_cons_succ]
        refine wpAnyH_all (rs := [0, 5, 8]) (by kernel_rfl) (by simp) ?_
        intro i hi
        simp only [List.mem_cons, List.not_mem_nil, or_false] at hi
        rcases hi with rfl | rfl | rfl
        · have O_3 : Hid ((w9.alloc (.cells #[] 64)).ownsRow w8.heap.size 64 4 (.slice (some ⟨w9.heap.size, 0, none⟩) 0 0) 0 []) := ⟨rfl, .inr ⟨w9.heap.size, 0, #[], rfl, B8.out.size, heap_alloc_new w9 _, Nat.le_refl _, by simp, rfl, rfl⟩⟩
          have h_4 : Below w9.heap.size w9 (w9.alloc (.cells #[] 64)) := below_new _ _
          refine wpOp_of rfl rfl (wp_built0 patSl ?_)
          refine ⟨ext_trans B8.out h_4, ?_⟩
          simp only [Act.put, List.setIfInBounds_toArray, List.set_cons_zero, List.set_cons_succ]
          generalize (w9.alloc (.cells #[] 64)) = w_1 at *
          have B_5 := Lib.hid (ext_trans B8.out h_4)
          clear B8
          clear h_4
          generalize w9.heap.size = g_2 at *
          refine wpAnyH_all (rs := [3, 5, 8]) (by kernel_rfl) (by simp) ?_
          intro i hi
          simp only [List.mem_cons, List.not_mem_nil, or_false] at hi
          rcases hi with rfl | rfl | rfl
          · refine wpOp_of rfl rfl (wp_catF patSl O_3.out (SL8.out.below B_5.out (Nat.le_refl _)) one8.out B_5.out.size (by omega) (by unfold maxLen; omega) rfl rfl ?_)
            intro v_7 w_6 o_8 k_9 hv_10
            rw [Nat.zero_add, List.nil_append] at o_8
            have B_11 : Hid (Below w8.heap.size w8 w_6) := B_5.out.trans (k_9.below (fun k e => (O_3.out.lt k e).1) B_5.out.size)
            have O_12 := Lib.hid o_8
            obtain ⟨A_13, c_14, rfl, _, _⟩ := Sl.of_own o_8
            refine ⟨B_11.out, ?_⟩
            simp only [Act.put, List.setIfInBounds_toArray, List.set_cons_zero, List.set_cons_succ]
            clear o_8 k_9 hv_10 B_5 O_3
            refine wpAnyH_all (rs := [5, 8]) (by kernel_rfl) (by simp) ?_
            intro i hi
            simp only [List.mem_cons, List.not_mem_nil, or_false] at hi
            rcases hi with rfl | rfl
            · have L_17 : Hid (Blk (w_6.alloc (.cells (patC p.1 A1 p.2.1.length c1 A2 p.2.2.length c2).toArray 64)) w_6.heap.size 64 (patC p.1 A1 p.2.1.length c1 A2 p.2.2.length c2).toArray) := Blk.new _ _ _
              have N_19 : Hid (∀ q, (Value.slice A_13 (n) c_14).ownBlock = some q → q ≠ w_6.heap.size) := fun q e => Nat.ne_of_lt (O_12.out.lt q e).2
              have h_18 : Below w_6.heap.size w_6 (w_6.alloc (.cells (patC p.1 A1 p.2.1.length c1 A2 p.2.2.length c2).toArray 64)) := below_new _ _
              refine wpOp_of rfl rfl (wp_lit1 patSl (cs := (patC p.1 A1 p.2.1.length c1 A2 p.2.2.length c2)) PI8.out.len4 (by omega) rfl ?_)
              refine ⟨ext_trans B_11.out h_18, ?_⟩
              simp only [Act.put, List.setIfInBounds_toArray, List.set_cons_zero, List.set_cons_succ]
              generalize (w_6.alloc (.cells (patC p.1 A1 p.2.1.length c1 A2 p.2.2.length c2).toArray 64)) = w_15 at *
              have B_20 := Lib.hid (ext_trans B_11.out h_18)
              have F_21 := Lib.hid (own_ext O_12.out h_18)
              clear B_11 O_12
              clear h_18
              generalize w_6.heap.size = g_16 at *
              refine wpAnyH_all (rs := [6, 8]) (by kernel_rfl) (by simp) ?_
              intro i hi
              simp only [List.mem_cons, List.not_mem_nil, or_false] at hi
              rcases hi with rfl | rfl
              · refine wpOp_of rfl rfl (wp_catF patSl F_21.out (sl_lit L_17.out PI8.out.len4) PI8.out.one B_20.out.size (by omega) (by unfold maxLen; omega) rfl rfl ?_)
                intro v_23 w_22 o_24 k_25 hv_26
                have B_27 : Hid (Below w8.heap.size w8 w_22) := B_20.out.trans (k_25.below (fun k e => (F_21.out.lt k e).1) B_20.out.size)
                have L_31 := Lib.hid (k_25.blk L_17.out (fun e => N_19.out _ e rfl))
                have N_32 : Hid (∀ q, v_23.ownBlock = some q → q ≠ g_16) := fun q e => (hv_26 q e).elim (fun e => N_19.out q e) (fun e => by have := L_17.out.lt; omega)
                have O_28 := Lib.hid o_24
                obtain ⟨A_29, c_30, rfl, _, _⟩ := Sl.of_own o_24
                refine ⟨B_27.out, ?_⟩
                simp only [Act.put, List.setIfInBounds_toArray, List.set_cons_zero, List.set_cons_succ]
                clear o_24 k_25 hv_26 B_20 F_21 L_17 N_19
                refine takeV (i := 7) (d := 51) (v := .agg #[.slice A_29 (n + 1) c_30]) rfl (by kernel_rfl) (by kernel_rfl) (by kernel_rfl) (fun _ _ _ h => h) rfl (fun w' _ => exBuild (vs := #[(0, .slice A_29 (n + 1) c_30)]) (by simp only [List.map_toArray, List.map_cons, List.map_nil]; rfl) (buildG20 _ _ _ w')) B_27.out ?_
                simp only [Act.put, List.setIfInBounds_toArray, List.set_cons_zero, List.set_cons_succ]
                refine wpAnyH_all (rs := [8]) (by kernel_rfl) (by simp) ?_
                intro i hi
                simp only [List.mem_cons, List.not_mem_nil, or_false] at hi
                subst hi
                refine wpOp_of rfl rfl (wp_alloced (allocG20 _) ?_)
                refine ⟨ext_trans B_27.out (below_new _ _), ?_⟩
                simp only [Act.put, List.setIfInBounds_toArray, List.set_cons_zero, List.set_cons_succ]
                have K_33 : Hid (Blk (w_22.alloc (.cells #[.slice none 0 0] 182)) w_22.heap.size 182 #[.slice none 0 0]) := Blk.new _ _ _
                have h_34 : Below w_22.heap.size w_22 (w_22.alloc (.cells #[.slice none 0 0] 182)) := below_new _ _
                have gz_36 : Hid (w8.heap.size ≤ w_22.heap.size) := B_27.out.size
                generalize (w_22.alloc (.cells #[.slice none 0 0] 182)) = w_35 at *
                have B_38 := Lib.hid (ext_trans B_27.out h_34)
                have F_39 := Lib.hid (L_31.out.ext h_34)
                have F_40 := Lib.hid (N_32.out)
                have F_41 := Lib.hid (own_ext O_28.out h_34)
                clear B_27 L_31 N_32 O_28
                clear h_34
                generalize w_22.heap.size = g_37 at *
                refine wpAnyH_all (rs := [9]) (by kernel_rfl) (by simp) ?_
                intro i hi
                simp only [List.mem_cons, List.not_mem_nil, or_false] at hi
                subst hi
                have P_42 := Lib.hid (patsAt_built RI8.out PI8.out hln8.out B_38.out F_41.out K_33.out gz_36.out #[.slice A_29 (n + 1) c_30])
                have K_43 := Lib.hid (K_33.out.row #[.slice A_29 (n + 1) c_30])
                have B_44 := Lib.hid (below_setRow B_38.out gz_36.out #[.slice A_29 (n + 1) c_30])
                refine wpOp_of rfl rfl (wp_stored (cs := #[.slice A_29 (n + 1) c_30]) rfl rfl K_33.out infoG20 rfl (by simp [Value.oneCell']) ?_)
                refine ⟨B_44.out, ?_⟩
                clear B_38 F_39 F_40 F_41 K_33
                refine wpAnyH_done (by kernel_rfl) ?_ _
                go_wp2_with fail
                go_meet
                case rel => exact ⟨_, _, _, rfl, K_43.out, P_42.out, B_44.out⟩
              · refine wpOp_of rfl rfl (wp_alloced (allocG20 _) ?_)
                refine ⟨ext_trans B_20.out (below_new _ _), ?_⟩
                simp only [Act.put, List.setIfInBounds_toArray, List.set_cons_zero, List.set_cons_succ]
                have K_45 : Hid (Blk (w_15.alloc (.cells #[.slice none 0 0] 182)) w_15.heap.size 182 #[.slice none 0 0]) := Blk.new _ _ _
                have h_46 : Below w_15.heap.size w_15 (w_15.alloc (.cells #[.slice none 0 0] 182)) := below_new _ _
                have gz_48 : Hid (w8.heap.size ≤ w_15.heap.size) := B_20.out.size
                generalize (w_15.alloc (.cells #[.slice none 0 0] 182)) = w_47 at *
                have B_50 := Lib.hid (ext_trans B_20.out h_46)
                have F_51 := Lib.hid (own_ext F_21.out h_46)
                have F_52 := Lib.hid (L_17.out.ext h_46)
                have F_53 := Lib.hid (N_19.out)
                clear B_20 F_21 L_17 N_19
                clear h_46
                generalize w_15.heap.size = g_49 at *
                refine wpAnyH_all (rs := [6]) (by kernel_rfl) (by simp) ?_
                intro i hi
                simp only [List.mem_cons, List.not_mem_nil, or_false] at hi
                subst hi
                refine wpOp_of rfl rfl (wp_catF patSl F_51.out (sl_lit F_52.out PI8.out.len4) PI8.out.one B_50.out.size (by omega) (by unfold maxLen; omega) rfl rfl ?_)
                intro v_55 w_54 o_56 k_57 hv_58
                have B_59 : Hid (Below w8.heap.size w8 w_54) := B_50.out.trans (k_57.below (fun k e => (F_51.out.lt k e).1) B_50.out.size)
                have K_63 := Lib.hid (k_57.blk K_45.out (blk_not_own K_45.out (by decide) F_51.out))
                have L_64 := Lib.hid (k_57.blk F_52.out (fun e => F_53.out _ e rfl))
                have N_65 : Hid (∀ q, v_55.ownBlock = some q → q ≠ g_16) := fun q e => (hv_58 q e).elim (fun e => F_53.out q e) (fun e => by have := F_52.out.lt; omega)
                have O_60 := Lib.hid o_56
                obtain ⟨A_61, c_62, rfl, _, _⟩ := Sl.of_own o_56
                refine ⟨B_59.out, ?_⟩
                simp only [Act.put, List.setIfInBounds_toArray, List.set_cons_zero, List.set_cons_succ]
                clear o_56 k_57 hv_58 B_50 F_51 F_52 F_53 K_45
                refine takeV (i := 7) (d := 51) (v := .agg #[.slice A_61 (n + 1) c_62]) rfl (by kernel_rfl) (by kernel_rfl) (by kernel_rfl) (fun _ _ _ h => h) rfl (fun w' _ => exBuild (vs := #[(0, .slice A_61 (n + 1) c_62)]) (by simp only [List.map_toArray, List.map_cons, List.map_nil]; rfl) (buildG20 _ _ _ w')) B_59.out ?_
                simp only [Act.put, List.setIfInBounds_toArray, List.set_cons_zero, List.set_cons_succ]
                refine wpAnyH_all (rs := [9]) (by kernel_rfl) (by simp) ?_
                intro i hi
                simp only [List.mem_cons, List.not_mem_nil, or_false] at hi
                subst hi
                have P_66 := Lib.hid (patsAt_built RI8.out PI8.out hln8.out B_59.out O_60.out K_63.out gz_48.out #[.slice A_61 (n + 1) c_62])
                have K_67 := Lib.hid (K_63.out.row #[.slice A_61 (n + 1) c_62])
                have B_68 := Lib.hid (below_setRow B_59.out gz_48.out #[.slice A_61 (n + 1) c_62])
                refine wpOp_of rfl rfl (wp_stored (cs := #[.slice A_61 (n + 1) c_62]) rfl rfl K_63.out infoG20 rfl (by simp [Value.oneCell']) ?_)
                refine ⟨B_68.out, ?_⟩
                clear B_59 K_63 L_64 N_65 O_60
                refine wpAnyH_done (by kernel_rfl) ?_ _
                go_wp2_with fail
                go_meet
                case rel => exact ⟨_, _, _, rfl, K_67.out, P_66.out, B_68.out⟩
            · refine wpOp_of rfl rfl (wp_alloced (allocG20 _) ?_)
              refine ⟨ext_trans B_11.out (below_new _ _), ?_⟩
              simp only [Act.put, List.setIfInBounds_toArray, List.set_cons_zero, List.set_cons_succ]
              have K_69 : Hid (Blk (w_6.alloc (.cells #[.slice none 0 0] 182)) w_6.heap.size 182 #[.slice none 0 0]) := Blk.new _ _ _
              have h_70 : Below w_6.heap.size w_6 (w_6.alloc (.cells #[.slice none 0 0] 182)) := below_new _ _
              have gz_72 : Hid (w8.heap.size ≤ w_6.heap.size) := B_11.out.size
              generalize (w_6.alloc (.cells #[.slice none 0 0] 182)) = w_71 at *
              have B_74 := Lib.hid (ext_trans B_11.out h_70)
              have F_75 := Lib.hid (own_ext O_12.out h_70)
              clear B_11 O_12
              clear h_70
              generalize w_6.heap.size = g_73 at *
              refine wpAnyH_all (rs := [5]) (by kernel_rfl) (by simp) ?_
              intro i hi
              simp only [List.mem_cons, List.not_mem_nil, or_false] at hi
              subst hi
              have L_78 : Hid (Blk (w_71.alloc (.cells (patC p.1 A1 p.2.1.length c1 A2 p.2.2.length c2).toArray 64)) w_71.heap.size 64 (patC p.1 A1 p.2.1.length c1 A2 p.2.2.length c2).toArray) := Blk.new _ _ _
              have N_80 : Hid (∀ q, (Value.slice A_13 (n) c_14).ownBlock = some q → q ≠ w_71.heap.size) := fun q e => Nat.ne_of_lt (F_75.out.lt q e).2
              have h_79 : Below w_71.heap.size w_71 (w_71.alloc (.cells (patC p.1 A1 p.2.1.length c1 A2 p.2.2.length c2).toArray 64)) := below_new _ _
              refine wpOp_of rfl rfl (wp_lit1 patSl (cs := (patC p.1 A1 p.2.1.length c1 A2 p.2.2.length c2)) PI8.out.len4 (by omega) rfl ?_)
              refine ⟨ext_trans B_74.out h_79, ?_⟩
              simp only [Act.put, List.setIfInBounds_toArray, List.set_cons_zero, List.set_cons_succ]
              generalize (w_71.alloc (.cells (patC p.1 A1 p.2.1.length c1 A2 p.2.2.length c2).toArray 64)) = w_76 at *
              have B_81 := Lib.hid (ext_trans B_74.out h_79)
              have F_82 := Lib.hid (own_ext F_75.out h_79)
              have F_83 := Lib.hid (K_69.out.ext h_79)
              clear B_74 F_75 K_69
              clear h_79
              generalize w_71.heap.size = g_77 at *
              refine wpAnyH_all (rs := [6]) (by kernel_rfl) (by simp) ?_
              intro i hi
              simp only [List.mem_cons, List.not_mem_nil, or_false] at hi
              subst hi
              refine wpOp_of rfl rfl (wp_catF patSl F_82.out (sl_lit L_78.out PI8.out.len4) PI8.out.one B_81.out.size (by omega) (by unfold maxLen; omega) rfl rfl ?_)
              intro v_85 w_84 o_86 k_87 hv_88
              have B_89 : Hid (Below w8.heap.size w8 w_84) := B_81.out.trans (k_87.below (fun k e => (F_82.out.lt k e).1) B_81.out.size)
              have K_93 := Lib.hid (k_87.blk F_83.out (blk_not_own F_83.out (by decide) F_82.out))
              have L_94 := Lib.hid (k_87.blk L_78.out (fun e => N_80.out _ e rfl))
              have N_95 : Hid (∀ q, v_85.ownBlock = some q → q ≠ g_77) := fun q e => (hv_88 q e).elim (fun e => N_80.out q e) (fun e => by have := L_78.out.lt; omega)
              have O_90 := Lib.hid o_86
              obtain ⟨A_91, c_92, rfl, _, _⟩ := Sl.of_own o_86
              refine ⟨B_89.out, ?_⟩
              simp only [Act.put, List.setIfInBounds_toArray, List.set_cons_zero, List.set_cons_succ]
              clear o_86 k_87 hv_88 B_81 F_82 F_83 L_78 N_80
              refine takeV (i := 7) (d := 51) (v := .agg #[.slice A_91 (n + 1) c_92]) rfl (by kernel_rfl) (by kernel_rfl) (by kernel_rfl) (fun _ _ _ h => h) rfl (fun w' _ => exBuild (vs := #[(0, .slice A_91 (n + 1) c_92)]) (by simp only [List.map_toArray, List.map_cons, List.map_nil]; rfl) (buildG20 _ _ _ w')) B_89.out ?_
              simp only [Act.put, List.setIfInBounds_toArray, List.set_cons_zero, List.set_cons_succ]
              refine wpAnyH_all (rs := [9]) (by kernel_rfl) (by simp) ?_
              intro i hi
              simp only [List.mem_cons, List.not_mem_nil, or_false] at hi
              subst hi
              have P_96 := Lib.hid (patsAt_built RI8.out PI8.out hln8.out B_89.out O_90.out K_93.out gz_72.out #[.slice A_91 (n + 1) c_92])
              have K_97 := Lib.hid (K_93.out.row #[.slice A_91 (n + 1) c_92])
              have B_98 := Lib.hid (below_setRow B_89.out gz_72.out #[.slice A_91 (n + 1) c_92])
              refine wpOp_of rfl rfl (wp_stored (cs := #[.slice A_91 (n + 1) c_92]) rfl rfl K_93.out infoG20 rfl (by simp [Value.oneCell']) ?_)
              refine ⟨B_98.out, ?_⟩
              clear B_89 K_93 L_94 N_95 O_90
              refine wpAnyH_done (by kernel_rfl) ?_ _
              go_wp2_with fail
              go_meet
              case rel => exact ⟨_, _, _, rfl, K_97.out, P_96.out, B_98.out⟩
          · have L_101 : Hid (Blk (w_1.alloc (.cells (patC p.1 A1 p.2.1.length c1 A2 p.2.2.length c2).toArray 64)) w_1.heap.size 64 (patC p.1 A1 p.2.1.length c1 A2 p.2.2.length c2).toArray) := Blk.new _ _ _
            have N_103 : Hid (∀ q, (Value.slice (some ⟨g_2, 0, none⟩) 0 0).ownBlock = some q → q ≠ w_1.heap.size) := fun q e => Nat.ne_of_lt (O_3.out.lt q e).2
            have h_102 : Below w_1.heap.size w_1 (w_1.alloc (.cells (patC p.1 A1 p.2.1.length c1 A2 p.2.2.length c2).toArray 64)) := below_new _ _
            refine wpOp_of rfl rfl (wp_lit1 patSl (cs := (patC p.1 A1 p.2.1.length c1 A2 p.2.2.length c2)) PI8.out.len4 (by omega) rfl ?_)
            refine ⟨ext_trans B_5.out h_102, ?_⟩
            simp only [Act.put, List.setIfInBounds_toArray, List.set_cons_zero, List.set_cons_succ]
            generalize (w_1.alloc (.cells (patC p.1 A1 p.2.1.length c1 A2 p.2.2.length c2).toArray 64)) = w_99 at *
            have B_104 := Lib.hid (ext_trans B_5.out h_102)
            have F_105 := Lib.hid (own_ext O_3.out h_102)
            clear B_5 O_3
            clear h_102
            generalize w_1.heap.size = g_100 at *
            refine wpAnyH_all (rs := [3, 8]) (by kernel_rfl) (by simp) ?_
            intro i hi
            simp only [List.mem_cons, List.not_mem_nil, or_false] at hi
            rcases hi with rfl | rfl
            · refine wpOp_of rfl rfl (wp_catF patSl F_105.out (SL8.out.below B_104.out (Nat.le_refl _)) one8.out B_104.out.size (by omega) (by unfold maxLen; omega) rfl rfl ?_)
              intro v_107 w_106 o_108 k_109 hv_110
              rw [Nat.zero_add, List.nil_append] at o_108
              have B_111 : Hid (Below w8.heap.size w8 w_106) := B_104.out.trans (k_109.below (fun k e => (F_105.out.lt k e).1) B_104.out.size)
              have L_115 := Lib.hid (k_109.blk L_101.out (fun e => N_103.out _ e rfl))
              have N_116 : Hid (∀ q, v_107.ownBlock = some q → q ≠ g_100) := fun q e => (hv_110 q e).elim (fun e => N_103.out q e) (fun e => by have := L_101.out.lt; omega)
              have O_112 := Lib.hid o_108
              obtain ⟨A_113, c_114, rfl, _, _⟩ := Sl.of_own o_108
              refine ⟨B_111.out, ?_⟩
              simp only [Act.put, List.setIfInBounds_toArray, List.set_cons_zero, List.set_cons_succ]
              clear o_108 k_109 hv_110 B_104 F_105 L_101 N_103
              refine wpAnyH_all (rs := [6, 8]) (by kernel_rfl) (by simp) ?_
              intro i hi
              simp only [List.mem_cons, List.not_mem_nil, or_false] at hi
              rcases hi with rfl | rfl
              · refine wpOp_of rfl rfl (wp_catF patSl O_112.out (sl_lit L_115.out PI8.out.len4) PI8.out.one B_111.out.size (by omega) (by unfold maxLen; omega) rfl rfl ?_)
                intro v_118 w_117 o_119 k_120 hv_121
                have B_122 : Hid (Below w8.heap.size w8 w_117) := B_111.out.trans (k_120.below (fun k e => (O_112.out.lt k e).1) B_111.out.size)
                have L_126 := Lib.hid (k_120.blk L_115.out (fun e => N_116.out _ e rfl))
                have N_127 : Hid (∀ q, v_118.ownBlock = some q → q ≠ g_100) := fun q e => (hv_121 q e).elim (fun e => N_116.out q e) (fun e => by have := L_115.out.lt; omega)
                have O_123 := Lib.hid o_119
                obtain ⟨A_124, c_125, rfl, _, _⟩ := Sl.of_own o_119
                refine ⟨B_122.out, ?_⟩
                simp only [Act.put, List.setIfInBounds_toArray, List.set_cons_zero, List.set_cons_succ]
                clear o_119 k_120 hv_121 B_111 L_115 N_116 O_112
                refine takeV (i := 7) (d := 51) (v := .agg #[.slice A_124 (n + 1) c_125]) rfl (by kernel_rfl) (by kernel_rfl) (by kernel_rfl) (fun _ _ _ h => h) rfl (fun w' _ => exBuild (vs := #[(0, .slice A_124 (n + 1) c_125)]) (by simp only [List.map_toArray, List.map_cons, List.map_nil]; rfl) (buildG20 _ _ _ w')) B_122.out ?_
                simp only [Act.put, List.setIfInBounds_toArray, List.set_cons_zero, List.set_cons_succ]
                refine wpAnyH_all (rs := [8]) (by kernel_rfl) (by simp) ?_
                intro i hi
                simp only [List.mem_cons, List.not_mem_nil, or_false] at hi
                subst hi
                refine wpOp_of rfl rfl (wp_alloced (allocG20 _) ?_)
                refine ⟨ext_trans B_122.out (below_new _ _), ?_⟩
                simp only [Act.put, List.setIfInBounds_toArray, List.set_cons_zero, List.set_cons_succ]
                have K_128 : Hid (Blk (w_117.alloc (.cells #[.slice none 0 0] 182)) w_117.heap.size 182 #[.slice none 0 0]) := Blk.new _ _ _
                have h_129 : Below w_117.heap.size w_117 (w_117.alloc (.cells #[.slice none 0 0] 182)) := below_new _ _
                have gz_131 : Hid (w8.heap.size ≤ w_117.heap.size) := B_122.out.size
                generalize (w_117.alloc (.cells #[.slice none 0 0] 182)) = w_130 at *
                have B_133 := Lib.hid (ext_trans B_122.out h_129)
                have F_134 := Lib.hid (L_126.out.ext h_129)
                have F_135 := Lib.hid (N_127.out)
                have F_136 := Lib.hid (own_ext O_123.out h_129)
                clear B_122 L_126 N_127 O_123
                clear h_129
                generalize w_117.heap.size = g_132 at *
                refine wpAnyH_all (rs := [9]) (by kernel_rfl) (by simp) ?_
                intro i hi
                simp only [List.mem_cons, List.not_mem_nil, or_false] at hi
                subst hi
                have P_137 := Lib.hid (patsAt_built RI8.out PI8.out hln8.out B_133.out F_136.out K_128.out gz_131.out #[.slice A_124 (n + 1) c_125])
                have K_138 := Lib.hid (K_128.out.row #[.slice A_124 (n + 1) c_125])
                have B_139 := Lib.hid (below_setRow B_133.out gz_131.out #[.slice A_124 (n + 1) c_125])
                refine wpOp_of rfl rfl (wp_stored (cs := #[.slice A_124 (n + 1) c_125]) rfl rfl K_128.out infoG20 rfl (by simp [Value.oneCell']) ?_)
                refine ⟨B_139.out, ?_⟩
                clear B_133 F_134 F_135 F_136 K_128
                refine wpAnyH_done (by kernel_rfl) ?_ _
                go_wp2_with fail
                go_meet
                case rel => exact ⟨_, _, _, rfl, K_138.out, P_137.out, B_139.out⟩
              · refine wpOp_of rfl rfl (wp_alloced (allocG20 _) ?_)
                refine ⟨ext_trans B_111.out (below_new _ _), ?_⟩
                simp only [Act.put, List.setIfInBounds_toArray, List.set_cons_zero, List.set_cons_succ]
                have K_140 : Hid (Blk (w_106.alloc (.cells #[.slice none 0 0] 182)) w_106.heap.size 182 #[.slice none 0 0]) := Blk.new _ _ _
                have h_141 : Below w_106.heap.size w_106 (w_106.alloc (.cells #[.slice none 0 0] 182)) := below_new _ _
                have gz_143 : Hid (w8.heap.size ≤ w_106.heap.size) := B_111.out.size
                generalize (w_106.alloc (.cells #[.slice none 0 0] 182)) = w_142 at *
                have B_145 := Lib.hid (ext_trans B_111.out h_141)
                have F_146 := Lib.hid (L_115.out.ext h_141)
                have F_147 := Lib.hid (N_116.out)
                have F_148 := Lib.hid (own_ext O_112.out h_141)
                clear B_111 L_115 N_116 O_112
                clear h_141
                generalize w_106.heap.size = g_144 at *
                refine wpAnyH_all (rs := [6]) (by kernel_rfl) (by simp) ?_
                intro i hi
                simp only [List.mem_cons, List.not_mem_nil, or_false] at hi
                subst hi
                refine wpOp_of rfl rfl (wp_catF patSl F_148.out (sl_lit F_146.out PI8.out.len4) PI8.out.one B_145.out.size (by omega) (by unfold maxLen; omega) rfl rfl ?_)
                intro v_150 w_149 o_151 k_152 hv_153
                have B_154 : Hid (Below w8.heap.size w8 w_149) := B_145.out.trans (k_152.below (fun k e => (F_148.out.lt k e).1) B_145.out.size)
                have K_158 := Lib.hid (k_152.blk K_140.out (blk_not_own K_140.out (by decide) F_148.out))
                have L_159 := Lib.hid (k_152.blk F_146.out (fun e => F_147.out _ e rfl))
                have N_160 : Hid (∀ q, v_150.ownBlock = some q → q ≠ g_100) := fun q e => (hv_153 q e).elim (fun e => F_147.out q e) (fun e => by have := F_146.out.lt; omega)
                have O_155 := Lib.hid o_151
                obtain ⟨A_156, c_157, rfl, _, _⟩ := Sl.of_own o_151
                refine ⟨B_154.out, ?_⟩
                simp only [Act.put, List.setIfInBounds_toArray, List.set_cons_zero, List.set_cons_succ]
                clear o_151 k_152 hv_153 B_145 F_146 F_147 F_148 K_140
                refine takeV (i := 7) (d := 51) (v := .agg #[.slice A_156 (n + 1) c_157]) rfl (by kernel_rfl) (by kernel_rfl) (by kernel_rfl) (fun _ _ _ h => h) rfl (fun w' _ => exBuild (vs := #[(0, .slice A_156 (n + 1) c_157)]) (by simp only [List.map_toArray, List.map_cons, List.map_nil]; rfl) (buildG20 _ _ _ w')) B_154.out ?_
                simp only [Act.put, List.setIfInBounds_toArray, List.set_cons_zero, List.set_cons_succ]
                refine wpAnyH_all (rs := [9]) (by kernel_rfl) (by simp) ?_
                intro i hi
                simp only [List.mem_cons, List.not_mem_nil, or_false] at hi
                subst hi
                have P_161 := Lib.hid (patsAt_built RI8.out PI8.out hln8.out B_154.out O_155.out K_158.out gz_143.out #[.slice A_156 (n + 1) c_157])
                have K_162 := Lib.hid (K_158.out.row #[.slice A_156 (n + 1) c_157])
                have B_163 := Lib.hid (below_setRow B_154.out gz_143.out #[.slice A_156 (n + 1) c_157])
                refine wpOp_of rfl rfl (wp_stored (cs := #[.slice A_156 (n + 1) c_157]) rfl rfl K_158.out infoG20 rfl (by simp [Value.oneCell']) ?_)
                refine ⟨B_163.out, ?_⟩
                clear B_154 K_158 L_159 N_160 O_155
                refine wpAnyH_done (by kernel_rfl) ?_ _
                go_wp2_with fail
                go_meet
                case rel => exact ⟨_, _, _, rfl, K_162.out, P_161.out, B_163.out⟩
            · refine wpOp_of rfl rfl (wp_alloced (allocG20 _) ?_)
              refine ⟨ext_trans B_104.out (below_new _ _), ?_⟩
              simp only [Act.put, List.setIfInBounds_toArray, List.set_cons_zero, List.set_cons_succ]
              have K_164 : Hid (Blk (w_99.alloc (.cells #[.slice none 0 0] 182)) w_99.heap.size 182 #[.slice none 0 0]) := Blk.new _ _ _
              have h_165 : Below w_99.heap.size w_99 (w_99.alloc (.cells #[.slice none 0 0] 182)) := below_new _ _
              have gz_167 : Hid (w8.heap.size ≤ w_99.heap.size) := B_104.out.size
              generalize (w_99.alloc (.cells #[.slice none 0 0] 182)) = w_166 at *
              have B_169 := Lib.hid (ext_trans B_104.out h_165)
              have F_170 := Lib.hid (own_ext F_105.out h_165)
              have F_171 := Lib.hid (L_101.out.ext h_165)
              have F_172 := Lib.hid (N_103.out)
              clear B_104 F_105 L_101 N_103
              clear h_165
              generalize w_99.heap.size = g_168 at *
              refine wpAnyH_all (rs := [3]) (by kernel_rfl) (by simp) ?_
              intro i hi
              simp only [List.mem_cons, List.not_mem_nil, or_false] at hi
              subst hi
              refine wpOp_of rfl rfl (wp_catF patSl F_170.out (SL8.out.below B_169.out (Nat.le_refl _)) one8.out B_169.out.size (by omega) (by unfold maxLen; omega) rfl rfl ?_)
              intro v_174 w_173 o_175 k_176 hv_177
              rw [Nat.zero_add, List.nil_append] at o_175
              have B_178 : Hid (Below w8.heap.size w8 w_173) := B_169.out.trans (k_176.below (fun k e => (F_170.out.lt k e).1) B_169.out.size)
              have K_182 := Lib.hid (k_176.blk K_164.out (blk_not_own K_164.out (by decide) F_170.out))
              have L_183 := Lib.hid (k_176.blk F_171.out (fun e => F_172.out _ e rfl))
              have N_184 : Hid (∀ q, v_174.ownBlock = some q → q ≠ g_100) := fun q e => (hv_177 q e).elim (fun e => F_172.out q e) (fun e => by have := F_171.out.lt; omega)
              have O_179 := Lib.hid o_175
              obtain ⟨A_180, c_181, rfl, _, _⟩ := Sl.of_own o_175
              refine ⟨B_178.out, ?_⟩
              simp only [Act.put, List.setIfInBounds_toArray, List.set_cons_zero, List.set_cons_succ]
              clear o_175 k_176 hv_177 B_169 F_170 F_171 F_172 K_164
              refine wpAnyH_all (rs := [6]) (by kernel_rfl) (by simp) ?_
              intro i hi
              simp only [List.mem_cons, List.not_mem_nil, or_false] at hi
              subst hi
              refine wpOp_of rfl rfl (wp_catF patSl O_179.out (sl_lit L_183.out PI8.out.len4) PI8.out.one B_178.out.size (by omega) (by unfold maxLen; omega) rfl rfl ?_)
              intro v_186 w_185 o_187 k_188 hv_189
              have B_190 : Hid (Below w8.heap.size w8 w_185) := B_178.out.trans (k_188.below (fun k e => (O_179.out.lt k e).1) B_178.out.size)
              have K_194 := Lib.hid (k_188.blk K_182.out (blk_not_own K_182.out (by decide) O_179.out))
              have L_195 := Lib.hid (k_188.blk L_183.out (fun e => N_184.out _ e rfl))
              have N_196 : Hid (∀ q, v_186.ownBlock = some q → q ≠ g_100) := fun q e => (hv_189 q e).elim (fun e => N_184.out q e) (fun e => by have := L_183.out.lt; omega)
              have O_191 := Lib.hid o_187
              obtain ⟨A_192, c_193, rfl, _, _⟩ := Sl.of_own o_187
              refine ⟨B_190.out, ?_⟩
              simp only [Act.put, List.setIfInBounds_toArray, List.set_cons_zero, List.set_cons_succ]
              clear o_187 k_188 hv_189 B_178 K_182 L_183 N_184 O_179
              refine takeV (i := 7) (d := 51) (v := .agg #[.slice A_192 (n + 1) c_193]) rfl (by kernel_rfl) (by kernel_rfl) (by kernel_rfl) (fun _ _ _ h => h) rfl (fun w' _ => exBuild (vs := #[(0, .slice A_192 (n + 1) c_193)]) (by simp only [List.map_toArray, List.map_cons, List.map_nil]; rfl) (buildG20 _ _ _ w')) B_190.out ?_
              simp only [Act.put, List.setIfInBounds_toArray, List.set_cons_zero, List.set_cons_succ]
              refine wpAnyH_all (rs := [9]) (by kernel_rfl) (by simp) ?_
              intro i hi
              simp only [List.mem_cons, List.not_mem_nil, or_false] at hi
              subst hi
              have P_197 := Lib.hid (patsAt_built RI8.out PI8.out hln8.out B_190.out O_191.out K_194.out gz_167.out #[.slice A_192 (n + 1) c_193])
              have K_198 := Lib.hid (K_194.out.row #[.slice A_192 (n + 1) c_193])
              have B_199 := Lib.hid (below_setRow B_190.out gz_167.out #[.slice A_192 (n + 1) c_193])
              refine wpOp_of rfl rfl (wp_stored (cs := #[.slice A_192 (n + 1) c_193]) rfl rfl K_194.out infoG20 rfl (by simp [Value.oneCell']) ?_)
              refine ⟨B_199.out, ?_⟩
              clear B_190 K_194 L_195 N_196 O_191
              refine wpAnyH_done (by kernel_rfl) ?_ _
              go_wp2_with fail
              go_meet
              case rel => exact ⟨_, _, _, rfl, K_198.out, P_197.out, B_199.out⟩
          · refine wpOp_of rfl rfl (wp_alloced (allocG20 _) ?_)
            refine ⟨ext_trans B_5.out (below_new _ _), ?_⟩
            simp only [Act.put, List.setIfInBounds_toArray, List.set_cons_zero, List.set_cons_succ]
            have K_200 : Hid (Blk (w_1.alloc (.cells #[.slice none 0 0] 182)) w_1.heap.size 182 #[.slice none 0 0]) := Blk.new _ _ _
            have h_201 : Below w_1.heap.size w_1 (w_1.alloc (.cells #[.slice none 0 0] 182)) := below_new _ _
            have gz_203 : Hid (w8.heap.size ≤ w_1.heap.size) := B_5.out.size
            generalize (w_1.alloc (.cells #[.slice none 0 0] 182)) = w_202 at *
            have B_205 := Lib.hid (ext_trans B_5.out h_201)
            have F_206 := Lib.hid (own_ext O_3.out h_201)
            clear B_5 O_3
            clear h_201
            generalize w_1.heap.size = g_204 at *
            refine wpAnyH_all (rs := [3, 5]) (by kernel_rfl) (by simp) ?_
            intro i hi
            simp only [List.mem_cons, List.not_mem_nil, or_false] at hi
            rcases hi with rfl | rfl
            · refine wpOp_of rfl rfl (wp_catF patSl F_206.out (SL8.out.below B_205.out (Nat.le_refl _)) one8.out B_205.out.size (by omega) (by unfold maxLen; omega) rfl rfl ?_)
              intro v_208 w_207 o_209 k_210 hv_211
              rw [Nat.zero_add, List.nil_append] at o_209
              have B_212 : Hid (Below w8.heap.size w8 w_207) := B_205.out.trans (k_210.below (fun k e => (F_206.out.lt k e).1) B_205.out.size)
              have K_216 := Lib.hid (k_210.blk K_200.out (blk_not_own K_200.out (by decide) F_206.out))
              have O_213 := Lib.hid o_209
              obtain ⟨A_214, c_215, rfl, _, _⟩ := Sl.of_own o_209
              refine ⟨B_212.out, ?_⟩
              simp only [Act.put, List.setIfInBounds_toArray, List.set_cons_zero, List.set_cons_succ]
              clear o_209 k_210 hv_211 B_205 F_206 K_200
              refine wpAnyH_all (rs := [5]) (by kernel_rfl) (by simp) ?_
              intro i hi
              simp only [List.mem_cons, List.not_mem_nil, or_false] at hi
              subst hi
              have L_219 : Hid (Blk (w_207.alloc (.cells (patC p.1 A1 p.2.1.length c1 A2 p.2.2.length c2).toArray 64)) w_207.heap.size 64 (patC p.1 A1 p.2.1.length c1 A2 p.2.2.length c2).toArray) := Blk.new _ _ _
              have N_221 : Hid (∀ q, (Value.slice A_214 (n) c_215).ownBlock = some q → q ≠ w_207.heap.size) := fun q e => Nat.ne_of_lt (O_213.out.lt q e).2
              have h_220 : Below w_207.heap.size w_207 (w_207.alloc (.cells (patC p.1 A1 p.2.1.length c1 A2 p.2.2.length c2).toArray 64)) := below_new _ _
              refine wpOp_of rfl rfl (wp_lit1 patSl (cs := (patC p.1 A1 p.2.1.length c1 A2 p.2.2.length c2)) PI8.out.len4 (by omega) rfl ?_)
              refine ⟨ext_trans B_212.out h_220, ?_⟩
              simp only [Act.put, List.setIfInBounds_toArray, List.set_cons_zero, List.set_cons_succ]
              generalize (w_207.alloc (.cells (patC p.1 A1 p.2.1.length c1 A2 p.2.2.length c2).toArray 64)) = w_217 at *
              have B_222 := Lib.hid (ext_trans B_212.out h_220)
              have F_223 := Lib.hid (K_216.out.ext h_220)
              have F_224 := Lib.hid (own_ext O_213.out h_220)
              clear B_212 K_216 O_213
              clear h_220
              generalize w_207.heap.size = g_218 at *
              refine wpAnyH_all (rs := [6]) (by kernel_rfl) (by simp) ?_
              intro i hi
              simp only [List.mem_cons, List.not_mem_nil, or_false] at hi
              subst hi
              refine wpOp_of rfl rfl (wp_catF patSl F_224.out (sl_lit L_219.out PI8.out.len4) PI8.out.one B_222.out.size (by omega) (by unfold maxLen; omega) rfl rfl ?_)
              intro v_226 w_225 o_227 k_228 hv_229
              have B_230 : Hid (Below w8.heap.size w8 w_225) := B_222.out.trans (k_228.below (fun k e => (F_224.out.lt k e).1) B_222.out.size)
              have K_234 := Lib.hid (k_228.blk F_223.out (blk_not_own F_223.out (by decide) F_224.out))
              have L_235 := Lib.hid (k_228.blk L_219.out (fun e => N_221.out _ e rfl))
              have N_236 : Hid (∀ q, v_226.ownBlock = some q → q ≠ g_218) := fun q e => (hv_229 q e).elim (fun e => N_221.out q e) (fun e => by have := L_219.out.lt; omega)
              have O_231 := Lib.hid o_227
              obtain ⟨A_232, c_233, rfl, _, _⟩ := Sl.of_own o_227
              refine ⟨B_230.out, ?_⟩
              simp only [Act.put, List.setIfInBounds_toArray, List.set_cons_zero, List.set_cons_succ]
              clear o_227 k_228 hv_229 B_222 F_223 F_224 L_219 N_221
              refine takeV (i := 7) (d := 51) (v := .agg #[.slice A_232 (n + 1) c_233]) rfl (by kernel_rfl) (by kernel_rfl) (by kernel_rfl) (fun _ _ _ h => h) rfl (fun w' _ => exBuild (vs := #[(0, .slice A_232 (n + 1) c_233)]) (by simp only [List.map_toArray, List.map_cons, List.map_nil]; rfl) (buildG20 _ _ _ w')) B_230.out ?_
              simp only [Act.put, List.setIfInBounds_toArray, List.set_cons_zero, List.set_cons_succ]
              refine wpAnyH_all (rs := [9]) (by kernel_rfl) (by simp) ?_
              intro i hi
              simp only [List.mem_cons, List.not_mem_nil, or_false] at hi
              subst hi
              have P_237 := Lib.hid (patsAt_built RI8.out PI8.out hln8.out B_230.out O_231.out K_234.out gz_203.out #[.slice A_232 (n + 1) c_233])
              have K_238 := Lib.hid (K_234.out.row #[.slice A_232 (n + 1) c_233])
              have B_239 := Lib.hid (below_setRow B_230.out gz_203.out #[.slice A_232 (n + 1) c_233])
              refine wpOp_of rfl rfl (wp_stored (cs := #[.slice A_232 (n + 1) c_233]) rfl rfl K_234.out infoG20 rfl (by simp [Value.oneCell']) ?_)
              refine ⟨B_239.out, ?_⟩
              clear B_230 K_234 L_235 N_236 O_231
              refine wpAnyH_done (by kernel_rfl) ?_ _
              go_wp2_with fail
              go_meet
              case rel => exact ⟨_, _, _, rfl, K_238.out, P_237.out, B_239.out⟩
            · have L_242 : Hid (Blk (w_202.alloc (.cells (patC p.1 A1 p.2.1.length c1 A2 p.2.2.length c2).toArray 64)) w_202.heap.size 64 (patC p.1 A1 p.2.1.length c1 A2 p.2.2.length c2).toArray) := Blk.new _ _ _
              have N_244 : Hid (∀ q, (Value.slice (some ⟨g_2, 0, none⟩) 0 0).ownBlock = some q → q ≠ w_202.heap.size) := fun q e => Nat.ne_of_lt (F_206.out.lt q e).2
              have h_243 : Below w_202.heap.size w_202 (w_202.alloc (.cells (patC p.1 A1 p.2.1.length c1 A2 p.2.2.length c2).toArray 64)) := below_new _ _
              refine wpOp_of rfl rfl (wp_lit1 patSl (cs := (patC p.1 A1 p.2.1.length c1 A2 p.2.2.length c2)) PI8.out.len4 (by omega) rfl ?_)
              refine ⟨ext_trans B_205.out h_243, ?_⟩
              simp only [Act.put, List.setIfInBounds_toArray, List.set_cons_zero, List.set_cons_succ]
              generalize (w_202.alloc (.cells (patC p.1 A1 p.2.1.length c1 A2 p.2.2.length c2).toArray 64)) = w_240 at *
              have B_245 := Lib.hid (ext_trans B_205.out h_243)
              have F_246 := Lib.hid (own_ext F_206.out h_243)
              have F_247 := Lib.hid (K_200.out.ext h_243)
              clear B_205 F_206 K_200
              clear h_243
              generalize w_202.heap.size = g_241 at *
              refine wpAnyH_all (rs := [3]) (by kernel_rfl) (by simp) ?_
              intro i hi
              simp only [List.mem_cons, List.not_mem_nil, or_false] at hi
              subst hi
              refine wpOp_of rfl rfl (wp_catF patSl F_246.out (SL8.out.below B_245.out (Nat.le_refl _)) one8.out B_245.out.size (by omega) (by unfold maxLen; omega) rfl rfl ?_)
              intro v_249 w_248 o_250 k_251 hv_252
              rw [Nat.zero_add, List.nil_append] at o_250
              have B_253 : Hid (Below w8.heap.size w8 w_248) := B_245.out.trans (k_251.below (fun k e => (F_246.out.lt k e).1) B_245.out.size)
              have K_257 := Lib.hid (k_251.blk F_247.out (blk_not_own F_247.out (by decide) F_246.out))
              have L_258 := Lib.hid (k_251.blk L_242.out (fun e => N_244.out _ e rfl))
              have N_259 : Hid (∀ q, v_249.ownBlock = some q → q ≠ g_241) := fun q e => (hv_252 q e).elim (fun e => N_244.out q e) (fun e => by have := L_242.out.lt; omega)
              have O_254 := Lib.hid o_250
              obtain ⟨A_255, c_256, rfl, _, _⟩ := Sl.of_own o_250
              refine ⟨B_253.out, ?_⟩
              simp only [Act.put, List.setIfInBounds_toArray, List.set_cons_zero, List.set_cons_succ]
              clear o_250 k_251 hv_252 B_245 F_246 F_247 L_242 N_244
              refine wpAnyH_all (rs := [6]) (by kernel_rfl) (by simp) ?_
              intro i hi
              simp only [List.mem_cons, List.not_mem_nil, or_false] at hi
              subst hi
              refine wpOp_of rfl rfl (wp_catF patSl O_254.out (sl_lit L_258.out PI8.out.len4) PI8.out.one B_253.out.size (by omega) (by unfold maxLen; omega) rfl rfl ?_)
              intro v_261 w_260 o_262 k_263 hv_264
              have B_265 : Hid (Below w8.heap.size w8 w_260) := B_253.out.trans (k_263.below (fun k e => (O_254.out.lt k e).1) B_253.out.size)
              have K_269 := Lib.hid (k_263.blk K_257.out (blk_not_own K_257.out (by decide) O_254.out))
              have L_270 := Lib.hid (k_263.blk L_258.out (fun e => N_259.out _ e rfl))
              have N_271 : Hid (∀ q, v_261.ownBlock = some q → q ≠ g_241) := fun q e => (hv_264 q e).elim (fun e => N_259.out q e) (fun e => by have := L_258.out.lt; omega)
              have O_266 := Lib.hid o_262
              obtain ⟨A_267, c_268, rfl, _, _⟩ := Sl.of_own o_262
              refine ⟨B_265.out, ?_⟩
              simp only [Act.put, List.setIfInBounds_toArray, List.set_cons_zero, List.set_cons_succ]
              clear o_262 k_263 hv_264 B_253 K_257 L_258 N_259 O_254
              refine takeV (i := 7) (d := 51) (v := .agg #[.slice A_267 (n + 1) c_268]) rfl (by kernel_rfl) (by kernel_rfl) (by kernel_rfl) (fun _ _ _ h => h) rfl (fun w' _ => exBuild (vs := #[(0, .slice A_267 (n + 1) c_268)]) (by simp only [List.map_toArray, List.map_cons, List.map_nil]; rfl) (buildG20 _ _ _ w')) B_265.out ?_
              simp only [Act.put, List.setIfInBounds_toArray, List.set_cons_zero, List.set_cons_succ]
              refine wpAnyH_all (rs := [9]) (by kernel_rfl) (by simp) ?_
              intro i hi
              simp only [List.mem_cons, List.not_mem_nil, or_false] at hi
              subst hi
              have P_272 := Lib.hid (patsAt_built RI8.out PI8.out hln8.out B_265.out O_266.out K_269.out gz_203.out #[.slice A_267 (n + 1) c_268])
              have K_273 := Lib.hid (K_269.out.row #[.slice A_267 (n + 1) c_268])
              have B_274 := Lib.hid (below_setRow B_265.out gz_203.out #[.slice A_267 (n + 1) c_268])
              refine wpOp_of rfl rfl (wp_stored (cs := #[.slice A_267 (n + 1) c_268]) rfl rfl K_269.out infoG20 rfl (by simp [Value.oneCell']) ?_)
              refine ⟨B_274.out, ?_⟩
              clear B_265 K_269 L_270 N_271 O_266
              refine wpAnyH_done (by kernel_rfl) ?_ _
              go_wp2_with fail
              go_meet
              case rel => exact ⟨_, _, _, rfl, K_273.out, P_272.out, B_274.out⟩
        · have L_277 : Hid (Blk (w9.alloc (.cells (patC p.1 A1 p.2.1.length c1 A2 p.2.2.length c2).toArray 64)) w9.heap.size 64 (patC p.1 A1 p.2.1.length c1 A2 p.2.2.length c2).toArray) := Blk.new _ _ _
          have h_278 : Below w9.heap.size w9 (w9.alloc (.cells (patC p.1 A1 p.2.1.length c1 A2 p.2.2.length c2).toArray 64)) := below_new _ _
          refine wpOp_of rfl rfl (wp_lit1 patSl (cs := (patC p.1 A1 p.2.1.length c1 A2 p.2.2.length c2)) PI8.out.len4 (by omega) rfl ?_)
          refine ⟨ext_trans B8.out h_278, ?_⟩
          simp only [Act.put, List.setIfInBounds_toArray, List.set_cons_zero, List.set_cons_succ]
          generalize (w9.alloc (.cells (patC p.1 A1 p.2.1.length c1 A2 p.2.2.length c2).toArray 64)) = w_275 at *
          have B_279 := Lib.hid (ext_trans B8.out h_278)
          clear B8
          clear h_278
          generalize w9.heap.size = g_276 at *
          refine wpAnyH_all (rs := [0, 8]) (by kernel_rfl) (by simp) ?_
          intro i hi
          simp only [List.mem_cons, List.not_mem_nil, or_false] at hi
          rcases hi with rfl | rfl
          · have O_282 : Hid ((w_275.alloc (.cells #[] 64)).ownsRow w8.heap.size 64 4 (.slice (some ⟨w_275.heap.size, 0, none⟩) 0 0) 0 []) := ⟨rfl, .inr ⟨w_275.heap.size, 0, #[], rfl, B_279.out.size, heap_alloc_new w_275 _, Nat.le_refl _, by simp, rfl, rfl⟩⟩
            have N_284 : Hid (∀ q, (Value.slice (some ⟨w_275.heap.size, 0, none⟩) 0 0).ownBlock = some q → q ≠ g_276) := fun q e => by have := L_277.out.lt; simp [Value.ownBlock] at e; omega
            have h_283 : Below w_275.heap.size w_275 (w_275.alloc (.cells #[] 64)) := below_new _ _
            refine wpOp_of rfl rfl (wp_built0 patSl ?_)
            refine ⟨ext_trans B_279.out h_283, ?_⟩
            simp only [Act.put, List.setIfInBounds_toArray, List.set_cons_zero, List.set_cons_succ]
            generalize (w_275.alloc (.cells #[] 64)) = w_280 at *
            have B_285 := Lib.hid (ext_trans B_279.out h_283)
            have F_286 := Lib.hid (L_277.out.ext h_283)
            clear B_279 L_277
            clear h_283
            generalize w_275.heap.size = g_281 at *
            refine wpAnyH_all (rs := [3, 8]) (by kernel_rfl) (by simp) ?_
            intro i hi
            simp only [List.mem_cons, List.not_mem_nil, or_false] at hi
            rcases hi with rfl | rfl
            · refine wpOp_of rfl rfl (wp_catF patSl O_282.out (SL8.out.below B_285.out (Nat.le_refl _)) one8.out B_285.out.size (by omega) (by unfold maxLen; omega) rfl rfl ?_)
              intro v_288 w_287 o_289 k_290 hv_291
              rw [Nat.zero_add, List.nil_append] at o_289
              have B_292 : Hid (Below w8.heap.size w8 w_287) := B_285.out.trans (k_290.below (fun k e => (O_282.out.lt k e).1) B_285.out.size)
              have L_296 := Lib.hid (k_290.blk F_286.out (fun e => N_284.out _ e rfl))
              have N_297 : Hid (∀ q, v_288.ownBlock = some q → q ≠ g_276) := fun q e => (hv_291 q e).elim (fun e => N_284.out q e) (fun e => by have := F_286.out.lt; omega)
              have O_293 := Lib.hid o_289
              obtain ⟨A_294, c_295, rfl, _, _⟩ := Sl.of_own o_289
              refine ⟨B_292.out, ?_⟩
              simp only [Act.put, List.setIfInBounds_toArray, List.set_cons_zero, List.set_cons_succ]
              clear o_289 k_290 hv_291 B_285 F_286 O_282 N_284
              refine wpAnyH_all (rs := [6, 8]) (by kernel_rfl) (by simp) ?_
              intro i hi
              simp only [List.mem_cons, List.not_mem_nil, or_false] at hi
              rcases hi with rfl | rfl
              · refine wpOp_of rfl rfl (wp_catF patSl O_293.out (sl_lit L_296.out PI8.out.len4) PI8.out.one B_292.out.size (by omega) (by unfold maxLen; omega) rfl rfl ?_)
                intro v_299 w_298 o_300 k_301 hv_302
                have B_303 : Hid (Below w8.heap.size w8 w_298) := B_292.out.trans (k_301.below (fun k e => (O_293.out.lt k e).1) B_292.out.size)
                have L_307 := Lib.hid (k_301.blk L_296.out (fun e => N_297.out _ e rfl))
                have N_308 : Hid (∀ q, v_299.ownBlock = some q → q ≠ g_276) := fun q e => (hv_302 q e).elim (fun e => N_297.out q e) (fun e => by have := L_296.out.lt; omega)
                have O_304 := Lib.hid o_300
                obtain ⟨A_305, c_306, rfl, _, _⟩ := Sl.of_own o_300
                refine ⟨B_303.out, ?_⟩
                simp only [Act.put, List.setIfInBounds_toArray, List.set_cons_zero, List.set_cons_succ]
                clear o_300 k_301 hv_302 B_292 L_296 N_297 O_293
                refine takeV (i := 7) (d := 51) (v := .agg #[.slice A_305 (n + 1) c_306]) rfl (by kernel_rfl) (by kernel_rfl) (by kernel_rfl) (fun _ _ _ h => h) rfl (fun w' _ => exBuild (vs := #[(0, .slice A_305 (n + 1) c_306)]) (by simp only [List.map_toArray, List.map_cons, List.map_nil]; rfl) (buildG20 _ _ _ w')) B_303.out ?_
                simp only [Act.put, List.setIfInBounds_toArray, List.set_cons_zero, List.set_cons_succ]
                refine wpAnyH_all (rs := [8]) (by kernel_rfl) (by simp) ?_
                intro i hi
                simp only [List.mem_cons, List.not_mem_nil, or_false] at hi
                subst hi
                refine wpOp_of rfl rfl (wp_alloced (allocG20 _) ?_)
                refine ⟨ext_trans B_303.out (below_new _ _), ?_⟩
                simp only [Act.put, List.setIfInBounds_toArray, List.set_cons_zero, List.set_cons_succ]
                have K_309 : Hid (Blk (w_298.alloc (.cells #[.slice none 0 0] 182)) w_298.heap.size 182 #[.slice none 0 0]) := Blk.new _ _ _
                have h_310 : Below w_298.heap.size w_298 (w_298.alloc (.cells #[.slice none 0 0] 182)) := below_new _ _
                have gz_312 : Hid (w8.heap.size ≤ w_298.heap.size) := B_303.out.size
                generalize (w_298.alloc (.cells #[.slice none 0 0] 182)) = w_311 at *
                have B_314 := Lib.hid (ext_trans B_303.out h_310)
                have F_315 := Lib.hid (L_307.out.ext h_310)
                have F_316 := Lib.hid (N_308.out)
                have F_317 := Lib.hid (own_ext O_304.out h_310)
                clear B_303 L_307 N_308 O_304
                clear h_310
                generalize w_298.heap.size = g_313 at *
                refine wpAnyH_all (rs := [9]) (by kernel_rfl) (by simp) ?_
                intro i hi
                simp only [List.mem_cons, List.not_mem_nil, or_false] at hi
                subst hi
                have P_318 := Lib.hid (patsAt_built RI8.out PI8.out hln8.out B_314.out F_317.out K_309.out gz_312.out #[.slice A_305 (n + 1) c_306])
                have K_319 := Lib.hid (K_309.out.row #[.slice A_305 (n + 1) c_306])
                have B_320 := Lib.hid (below_setRow B_314.out gz_312.out #[.slice A_305 (n + 1) c_306])
                refine wpOp_of rfl rfl (wp_stored (cs := #[.slice A_305 (n + 1) c_306]) rfl rfl K_309.out infoG20 rfl (by simp [Value.oneCell']) ?_)
                refine ⟨B_320.out, ?_⟩
                clear B_314 F_315 F_316 F_317 K_309
                refine wpAnyH_done (by kernel_rfl) ?_ _
                go_wp2_with fail
                go_meet
                case rel => exact ⟨_, _, _, rfl, K_319.out, P_318.out, B_320.out⟩
              · refine wpOp_of rfl rfl (wp_alloced (allocG20 _) ?_)
                refine ⟨ext_trans B_292.out (below_new _ _), ?_⟩
                simp only [Act.put, List.setIfInBounds_toArray, List.set_cons_zero, List.set_cons_succ]
                have K_321 : Hid (Blk (w_287.alloc (.cells #[.slice none 0 0] 182)) w_287.heap.size 182 #[.slice none 0 0]) := Blk.new _ _ _
                have h_322 : Below w_287.heap.size w_287 (w_287.alloc (.cells #[.slice none 0 0] 182)) := below_new _ _
                have gz_324 : Hid (w8.heap.size ≤ w_287.heap.size) := B_292.out.size
                generalize (w_287.alloc (.cells #[.slice none 0 0] 182)) = w_323 at *
                have B_326 := Lib.hid (ext_trans B_292.out h_322)
                have F_327 := Lib.hid (L_296.out.ext h_322)
                have F_328 := Lib.hid (N_297.out)
                have F_329 := Lib.hid (own_ext O_293.out h_322)
                clear B_292 L_296 N_297 O_293
                clear h_322
                generalize w_287.heap.size = g_325 at *
                refine wpAnyH_all (rs := [6]) (by kernel_rfl) (by simp) ?_
                intro i hi
                simp only [List.mem_cons, List.not_mem_nil, or_false] at hi
                subst hi
                refine wpOp_of rfl rfl (wp_catF patSl F_329.out (sl_lit F_327.out PI8.out.len4) PI8.out.one B_326.out.size (by omega) (by unfold maxLen; omega) rfl rfl ?_)
                intro v_331 w_330 o_332 k_333 hv_334
                have B_335 : Hid (Below w8.heap.size w8 w_330) := B_326.out.trans (k_333.below (fun k e => (F_329.out.lt k e).1) B_326.out.size)
                have K_339 := Lib.hid (k_333.blk K_321.out (blk_not_own K_321.out (by decide) F_329.out))
                have L_340 := Lib.hid (k_333.blk F_327.out (fun e => F_328.out _ e rfl))
                have N_341 : Hid (∀ q, v_331.ownBlock = some q → q ≠ g_276) := fun q e => (hv_334 q e).elim (fun e => F_328.out q e) (fun e => by have := F_327.out.lt; omega)
                have O_336 := Lib.hid o_332
                obtain ⟨A_337, c_338, rfl, _, _⟩ := Sl.of_own o_332
                refine ⟨B_335.out, ?_⟩
                simp only [Act.put, List.setIfInBounds_toArray, List.set_cons_zero, List.set_cons_succ]
                clear o_332 k_333 hv_334 B_326 F_327 F_328 F_329 K_321
                refine takeV (i := 7) (d := 51) (v := .agg #[.slice A_337 (n + 1) c_338]) rfl (by kernel_rfl) (by kernel_rfl) (by kernel_rfl) (fun _ _ _ h => h) rfl (fun w' _ => exBuild (vs := #[(0, .slice A_337 (n + 1) c_338)]) (by simp only [List.map_toArray, List.map_cons, List.map_nil]; rfl) (buildG20 _ _ _ w')) B_335.out ?_
                simp only [Act.put, List.setIfInBounds_toArray, List.set_cons_zero, List.set_cons_succ]
                refine wpAnyH_all (rs := [9]) (by kernel_rfl) (by simp) ?_
                intro i hi
                simp only [List.mem_cons, List.not_mem_nil, or_false] at hi
                subst hi
                have P_342 := Lib.hid (patsAt_built RI8.out PI8.out hln8.out B_335.out O_336.out K_339.out gz_324.out #[.slice A_337 (n + 1) c_338])
                have K_343 := Lib.hid (K_339.out.row #[.slice A_337 (n + 1) c_338])
                have B_344 := Lib.hid (below_setRow B_335.out gz_324.out #[.slice A_337 (n + 1) c_338])
                refine wpOp_of rfl rfl (wp_stored (cs := #[.slice A_337 (n + 1) c_338]) rfl rfl K_339.out infoG20 rfl (by simp [Value.oneCell']) ?_)
                refine ⟨B_344.out, ?_⟩
                clear B_335 K_339 L_340 N_341 O_336
                refine wpAnyH_done (by kernel_rfl) ?_ _
                go_wp2_with fail
                go_meet
                case rel => exact ⟨_, _, _, rfl, K_343.out, P_342.out, B_344.out⟩
            · refine wpOp_of rfl rfl (wp_alloced (allocG20 _) ?_)
              refine ⟨ext_trans B_285.out (below_new _ _), ?_⟩
              simp only [Act.put, List.setIfInBounds_toArray, List.set_cons_zero, List.set_cons_succ]
              have K_345 : Hid (Blk (w_280.alloc (.cells #[.slice none 0 0] 182)) w_280.heap.size 182 #[.slice none 0 0]) := Blk.new _ _ _
              have h_346 : Below w_280.heap.size w_280 (w_280.alloc (.cells #[.slice none 0 0] 182)) := below_new _ _
              have gz_348 : Hid (w8.heap.size ≤ w_280.heap.size) := B_285.out.size
              generalize (w_280.alloc (.cells #[.slice none 0 0] 182)) = w_347 at *
              have B_350 := Lib.hid (ext_trans B_285.out h_346)
              have F_351 := Lib.hid (F_286.out.ext h_346)
              have F_352 := Lib.hid (own_ext O_282.out h_346)
              have F_353 := Lib.hid (N_284.out)
              clear B_285 F_286 O_282 N_284
              clear h_346
              generalize w_280.heap.size = g_349 at *
              refine wpAnyH_all (rs := [3]) (by kernel_rfl) (by simp) ?_
              intro i hi
              simp only [List.mem_cons, List.not_mem_nil, or_false] at hi
              subst hi
              refine wpOp_of rfl rfl (wp_catF patSl F_352.out (SL8.out.below B_350.out (Nat.le_refl _)) one8.out B_350.out.size (by omega) (by unfold maxLen; omega) rfl rfl ?_)
              intro v_355 w_354 o_356 k_357 hv_358
              rw [Nat.zero_add, List.nil_append] at o_356
              have B_359 : Hid (Below w8.heap.size w8 w_354) := B_350.out.trans (k_357.below (fun k e => (F_352.out.lt k e).1) B_350.out.size)
              have K_363 := Lib.hid (k_357.blk K_345.out (blk_not_own K_345.out (by decide) F_352.out))
              have L_364 := Lib.hid (k_357.blk F_351.out (fun e => F_353.out _ e rfl))
              have N_365 : Hid (∀ q, v_355.ownBlock = some q → q ≠ g_276) := fun q e => (hv_358 q e).elim (fun e => F_353.out q e) (fun e => by have := F_351.out.lt; omega)
              have O_360 := Lib.hid o_356
              obtain ⟨A_361, c_362, rfl, _, _⟩ := Sl.of_own o_356
              refine ⟨B_359.out, ?_⟩
              simp only [Act.put, List.setIfInBounds_toArray, List.set_cons_zero, List.set_cons_succ]
              clear o_356 k_357 hv_358 B_350 F_351 F_352 F_353 K_345
              refine wpAnyH_all (rs := [6]) (by kernel_rfl) (by simp) ?_
              intro i hi
              simp only [List.mem_cons, List.not_mem_nil, or_false] at hi
              subst hi
              refine wpOp_of rfl rfl (wp_catF patSl O_360.out (sl_lit L_364.out PI8.out.len4) PI8.out.one B_359.out.size (by omega) (by unfold maxLen; omega) rfl rfl ?_)
              intro v_367 w_366 o_368 k_369 hv_370
              have B_371 : Hid (Below w8.heap.size w8 w_366) := B_359.out.trans (k_369.below (fun k e => (O_360.out.lt k e).1) B_359.out.size)
              have K_375 := Lib.hid (k_369.blk K_363.out (blk_not_own K_363.out (by decide) O_360.out))
              have L_376 := Lib.hid (k_369.blk L_364.out (fun e => N_365.out _ e rfl))
              have N_377 : Hid (∀ q, v_367.ownBlock = some q → q ≠ g_276) := fun q e => (hv_370 q e).elim (fun e => N_365.out q e) (fun e => by have := L_364.out.lt; omega)
              have O_372 := Lib.hid o_368
              obtain ⟨A_373, c_374, rfl, _, _⟩ := Sl.of_own o_368
              refine ⟨B_371.out, ?_⟩
              simp only [Act.put, List.setIfInBounds_toArray, List.set_cons_zero, List.set_cons_succ]
              clear o_368 k_369 hv_370 B_359 K_363 L_364 N_365 O_360
              refine takeV (i := 7) (d := 51) (v := .agg #[.slice A_373 (n + 1) c_374]) rfl (by kernel_rfl) (by kernel_rfl) (by kernel_rfl) (fun _ _ _ h => h) rfl (fun w' _ => exBuild (vs := #[(0, .slice A_373 (n + 1) c_374)]) (by simp only [List.map_toArray, List.map_cons, List.map_nil]; rfl) (buildG20 _ _ _ w')) B_371.out ?_
              simp only [Act.put, List.setIfInBounds_toArray, List.set_cons_zero, List.set_cons_succ]
              refine wpAnyH_all (rs := [9]) (by kernel_rfl) (by simp) ?_
              intro i hi
              simp only [List.mem_cons, List.not_mem_nil, or_false] at hi
              subst hi
              have P_378 := Lib.hid (patsAt_built RI8.out PI8.out hln8.out B_371.out O_372.out K_375.out gz_348.out #[.slice A_373 (n + 1) c_374])
              have K_379 := Lib.hid (K_375.out.row #[.slice A_373 (n + 1) c_374])
              have B_380 := Lib.hid (below_setRow B_371.out gz_348.out #[.slice A_373 (n + 1) c_374])
              refine wpOp_of rfl rfl (wp_stored (cs := #[.slice A_373 (n + 1) c_374]) rfl rfl K_375.out infoG20 rfl (by simp [Value.oneCell']) ?_)
              refine ⟨B_380.out, ?_⟩
              clear B_371 K_375 L_376 N_377 O_372
              refine wpAnyH_done (by kernel_rfl) ?_ _
              go_wp2_with fail
              go_meet
              case rel => exact ⟨_, _, _, rfl, K_379.out, P_378.out, B_380.out⟩
          · refine wpOp_of rfl rfl (wp_alloced (allocG20 _) ?_)
            refine ⟨ext_trans B_279.out (below_new _ _), ?_⟩
            simp only [Act.put, List.setIfInBounds_toArray, List.set_cons_zero, List.set_cons_succ]
            have K_381 : Hid (Blk (w_275.alloc (.cells #[.slice none 0 0] 182)) w_275.heap.size 182 #[.slice none 0 0]) := Blk.new _ _ _
            have h_382 : Below w_275.heap.size w_275 (w_275.alloc (.cells #[.slice none 0 0] 182)) := below_new _ _
            have gz_384 : Hid (w8.heap.size ≤ w_275.heap.size) := B_279.out.size
            generalize (w_275.alloc (.cells #[.slice none 0 0] 182)) = w_383 at *
            have B_386 := Lib.hid (ext_trans B_279.out h_382)
            have F_387 := Lib.hid (L_277.out.ext h_382)
            clear B_279 L_277
            clear h_382
            generalize w_275.heap.size = g_385 at *
            refine wpAnyH_all (rs := [0]) (by kernel_rfl) (by simp) ?_
            intro i hi
            simp only [List.mem_cons, List.not_mem_nil, or_false] at hi
            subst hi
            have O_390 : Hid ((w_383.alloc (.cells #[] 64)).ownsRow w8.heap.size 64 4 (.slice (some ⟨w_383.heap.size, 0, none⟩) 0 0) 0 []) := ⟨rfl, .inr ⟨w_383.heap.size, 0, #[], rfl, B_386.out.size, heap_alloc_new w_383 _, Nat.le_refl _, by simp, rfl, rfl⟩⟩
            have N_392 : Hid (∀ q, (Value.slice (some ⟨w_383.heap.size, 0, none⟩) 0 0).ownBlock = some q → q ≠ g_276) := fun q e => by have := F_387.out.lt; simp [Value.ownBlock] at e; omega
            have h_391 : Below w_383.heap.size w_383 (w_383.alloc (.cells #[] 64)) := below_new _ _
            refine wpOp_of rfl rfl (wp_built0 patSl ?_)
            refine ⟨ext_trans B_386.out h_391, ?_⟩
            simp only [Act.put, List.setIfInBounds_toArray, List.set_cons_zero, List.set_cons_succ]
            generalize (w_383.alloc (.cells #[] 64)) = w_388 at *
            have B_393 := Lib.hid (ext_trans B_386.out h_391)
            have F_394 := Lib.hid (F_387.out.ext h_391)
            have F_395 := Lib.hid (K_381.out.ext h_391)
            clear B_386 F_387 K_381
            clear h_391
            generalize w_383.heap.size = g_389 at *
            refine wpAnyH_all (rs := [3]) (by kernel_rfl) (by simp) ?_
            intro i hi
            simp only [List.mem_cons, List.not_mem_nil, or_false] at hi
            subst hi
            refine wpOp_of rfl rfl (wp_catF patSl O_390.out (SL8.out.below B_393.out (Nat.le_refl _)) one8.out B_393.out.size (by omega) (by unfold maxLen; omega) rfl rfl ?_)
            intro v_397 w_396 o_398 k_399 hv_400
            rw [Nat.zero_add, List.nil_append] at o_398
            have B_401 : Hid (Below w8.heap.size w8 w_396) := B_393.out.trans (k_399.below (fun k e => (O_390.out.lt k e).1) B_393.out.size)
            have K_405 := Lib.hid (k_399.blk F_395.out (blk_not_own F_395.out (by decide) O_390.out))
            have L_406 := Lib.hid (k_399.blk F_394.out (fun e => N_392.out _ e rfl))
            have N_407 : Hid (∀ q, v_397.ownBlock = some q → q ≠ g_276) := fun q e => (hv_400 q e).elim (fun e => N_392.out q e) (fun e => by have := F_394.out.lt; omega)
            have O_402 := Lib.hid o_398
            obtain ⟨A_403, c_404, rfl, _, _⟩ := Sl.of_own o_398
            refine ⟨B_401.out, ?_⟩
            simp only [Act.put, List.setIfInBounds_toArray, List.set_cons_zero, List.set_cons_succ]
            clear o_398 k_399 hv_400 B_393 F_394 F_395 O_390 N_392
            refine wpAnyH_all (rs := [6]) (by kernel_rfl) (by simp) ?_
            intro i hi
            simp only [List.mem_cons, List.not_mem_nil, or_false] at hi
            subst hi
            refine wpOp_of rfl rfl (wp_catF patSl O_402.out (sl_lit L_406.out PI8.out.len4) PI8.out.one B_401.out.size (by omega) (by unfold maxLen; omega) rfl rfl ?_)
            intro v_409 w_408 o_410 k_411 hv_412
            have B_413 : Hid (Below w8.heap.size w8 w_408) := B_401.out.trans (k_411.below (fun k e => (O_402.out.lt k e).1) B_401.out.size)
            have K_417 := Lib.hid (k_411.blk K_405.out (blk_not_own K_405.out (by decide) O_402.out))
            have L_418 := Lib.hid (k_411.blk L_406.out (fun e => N_407.out _ e rfl))
            have N_419 : Hid (∀ q, v_409.ownBlock = some q → q ≠ g_276) := fun q e => (hv_412 q e).elim (fun e => N_407.out q e) (fun e => by have := L_406.out.lt; omega)
            have O_414 := Lib.hid o_410
            obtain ⟨A_415, c_416, rfl, _, _⟩ := Sl.of_own o_410
            refine ⟨B_413.out, ?_⟩
            simp only [Act.put, List.setIfInBounds_toArray, List.set_cons_zero, List.set_cons_succ]
            clear o_410 k_411 hv_412 B_401 K_405 L_406 N_407 O_402
            refine takeV (i := 7) (d := 51) (v := .agg #[.slice A_415 (n + 1) c_416]) rfl (by kernel_rfl) (by kernel_rfl) (by kernel_rfl) (fun _ _ _ h => h) rfl (fun w' _ => exBuild (vs := #[(0, .slice A_415 (n + 1) c_416)]) (by simp only [List.map_toArray, List.map_cons, List.map_nil]; rfl) (buildG20 _ _ _ w')) B_413.out ?_
            simp only [Act.put, List.setIfInBounds_toArray, List.set_cons_zero, List.set_cons_succ]
            refine wpAnyH_all (rs := [9]) (by kernel_rfl) (by simp) ?_
            intro i hi
            simp only [List.mem_cons, List.not_mem_nil, or_false] at hi
            subst hi
            have P_420 := Lib.hid (patsAt_built RI8.out PI8.out hln8.out B_413.out O_414.out K_417.out gz_384.out #[.slice A_415 (n + 1) c_416])
            have K_421 := Lib.hid (K_417.out.row #[.slice A_415 (n + 1) c_416])
            have B_422 := Lib.hid (below_setRow B_413.out gz_384.out #[.slice A_415 (n + 1) c_416])
            refine wpOp_of rfl rfl (wp_stored (cs := #[.slice A_415 (n + 1) c_416]) rfl rfl K_417.out infoG20 rfl (by simp [Value.oneCell']) ?_)
            refine ⟨B_422.out, ?_⟩
            clear B_413 K_417 L_418 N_419 O_414
            refine wpAnyH_done (by kernel_rfl) ?_ _
            go_wp2_with fail
            go_meet
            case rel => exact ⟨_, _, _, rfl, K_421.out, P_420.out, B_422.out⟩
        · refine wpOp_of rfl rfl (wp_alloced (allocG20 _) ?_)
          refine ⟨ext_trans B8.out (below_new _ _), ?_⟩
          simp only [Act.put, List.setIfInBounds_toArray, List.set_cons_zero, List.set_cons_succ]
          have K_423 : Hid (Blk (w9.alloc (.cells #[.slice none 0 0] 182)) w9.heap.size 182 #[.slice none 0 0]) := Blk.new _ _ _
          have h_424 : Below w9.heap.size w9 (w9.alloc (.cells #[.slice none 0 0] 182)) := below_new _ _
          have gz_426 : Hid (w8.heap.size ≤ w9.heap.size) := B8.out.size
          generalize (w9.alloc (.cells #[.slice none 0 0] 182)) = w_425 at *
          have B_428 := Lib.hid (ext_trans B8.out h_424)
          clear B8
          clear h_424
          generalize w9.heap.size = g_427 at *
          refine wpAnyH_all (rs := [0, 5]) (by kernel_rfl) (by simp) ?_
          intro i hi
          simp only [List.mem_cons, List.not_mem_nil, or_false] at hi
          rcases hi with rfl | rfl
          · have O_431 : Hid ((w_425.alloc (.cells #[] 64)).ownsRow w8.heap.size 64 4 (.slice (some ⟨w_425.heap.size, 0, none⟩) 0 0) 0 []) := ⟨rfl, .inr ⟨w_425.heap.size, 0, #[], rfl, B_428.out.size, heap_alloc_new w_425 _, Nat.le_refl _, by simp, rfl, rfl⟩⟩
            have h_432 : Below w_425.heap.size w_425 (w_425.alloc (.cells #[] 64)) := below_new _ _
            refine wpOp_of rfl rfl (wp_built0 patSl ?_)
            refine ⟨ext_trans B_428.out h_432, ?_⟩
            simp only [Act.put, List.setIfInBounds_toArray, List.set_cons_zero, List.set_cons_succ]
            generalize (w_425.alloc (.cells #[] 64)) = w_429 at *
            have B_433 := Lib.hid (ext_trans B_428.out h_432)
            have F_434 := Lib.hid (K_423.out.ext h_432)
            clear B_428 K_423
            clear h_432
            generalize w_425.heap.size = g_430 at *
            refine wpAnyH_all (rs := [3, 5]) (by kernel_rfl) (by simp) ?_
            intro i hi
            simp only [List.mem_cons, List.not_mem_nil, or_false] at hi
            rcases hi with rfl | rfl
            · refine wpOp_of rfl rfl (wp_catF patSl O_431.out (SL8.out.below B_433.out (Nat.le_refl _)) one8.out B_433.out.size (by omega) (by unfold maxLen; omega) rfl rfl ?_)
              intro v_436 w_435 o_437 k_438 hv_439
              rw [Nat.zero_add, List.nil_append] at o_437
              have B_440 : Hid (Below w8.heap.size w8 w_435) := B_433.out.trans (k_438.below (fun k e => (O_431.out.lt k e).1) B_433.out.size)
              have K_444 := Lib.hid (k_438.blk F_434.out (blk_not_own F_434.out (by decide) O_431.out))
              have O_441 := Lib.hid o_437
              obtain ⟨A_442, c_443, rfl, _, _⟩ := Sl.of_own o_437
              refine ⟨B_440.out, ?_⟩
              simp only [Act.put, List.setIfInBounds_toArray, List.set_cons_zero, List.set_cons_succ]
              clear o_437 k_438 hv_439 B_433 F_434 O_431
              refine wpAnyH_all (rs := [5]) (by kernel_rfl) (by simp) ?_
              intro i hi
              simp only [List.mem_cons, List.not_mem_nil, or_false] at hi
              subst hi
              have L_447 : Hid (Blk (w_435.alloc (.cells (patC p.1 A1 p.2.1.length c1 A2 p.2.2.length c2).toArray 64)) w_435.heap.size 64 (patC p.1 A1 p.2.1.length c1 A2 p.2.2.length c2).toArray) := Blk.new _ _ _
              have N_449 : Hid (∀ q, (Value.slice A_442 (n) c_443).ownBlock = some q → q ≠ w_435.heap.size) := fun q e => Nat.ne_of_lt (O_441.out.lt q e).2
              have h_448 : Below w_435.heap.size w_435 (w_435.alloc (.cells (patC p.1 A1 p.2.1.length c1 A2 p.2.2.length c2).toArray 64)) := below_new _ _
              refine wpOp_of rfl rfl (wp_lit1 patSl (cs := (patC p.1 A1 p.2.1.length c1 A2 p.2.2.length c2)) PI8.out.len4 (by omega) rfl ?_)
              refine ⟨ext_trans B_440.out h_448, ?_⟩
              simp only [Act.put, List.setIfInBounds_toArray, List.set_cons_zero, List.set_cons_succ]
              generalize (w_435.alloc (.cells (patC p.1 A1 p.2.1.length c1 A2 p.2.2.length c2).toArray 64)) = w_445 at *
              have B_450 := Lib.hid (ext_trans B_440.out h_448)
              have F_451 := Lib.hid (K_444.out.ext h_448)
              have F_452 := Lib.hid (own_ext O_441.out h_448)
              clear B_440 K_444 O_441
              clear h_448
              generalize w_435.heap.size = g_446 at *
              refine wpAnyH_all (rs := [6]) (by kernel_rfl) (by simp) ?_
              intro i hi
              simp only [List.mem_cons, List.not_mem_nil, or_false] at hi
              subst hi
              refine wpOp_of rfl rfl (wp_catF patSl F_452.out (sl_lit L_447.out PI8.out.len4) PI8.out.one B_450.out.size (by omega) (by unfold maxLen; omega) rfl rfl ?_)
              intro v_454 w_453 o_455 k_456 hv_457
              have B_458 : Hid (Below w8.heap.size w8 w_453) := B_450.out.trans (k_456.below (fun k e => (F_452.out.lt k e).1) B_450.out.size)
              have K_462 := Lib.hid (k_456.blk F_451.out (blk_not_own F_451.out (by decide) F_452.out))
              have L_463 := Lib.hid (k_456.blk L_447.out (fun e => N_449.out _ e rfl))
              have N_464 : Hid (∀ q, v_454.ownBlock = some q → q ≠ g_446) := fun q e => (hv_457 q e).elim (fun e => N_449.out q e) (fun e => by have := L_447.out.lt; omega)
              have O_459 := Lib.hid o_455
              obtain ⟨A_460, c_461, rfl, _, _⟩ := Sl.of_own o_455
              refine ⟨B_458.out, ?_⟩
              simp only [Act.put, List.setIfInBounds_toArray, List.set_cons_zero, List.set_cons_succ]
              clear o_455 k_456 hv_457 B_450 F_451 F_452 L_447 N_449
              refine takeV (i := 7) (d := 51) (v := .agg #[.slice A_460 (n + 1) c_461]) rfl (by kernel_rfl) (by kernel_rfl) (by kernel_rfl) (fun _ _ _ h => h) rfl (fun w' _ => exBuild (vs := #[(0, .slice A_460 (n + 1) c_461)]) (by simp only [List.map_toArray, List.map_cons, List.map_nil]; rfl) (buildG20 _ _ _ w')) B_458.out ?_
              simp only [Act.put, List.setIfInBounds_toArray, List.set_cons_zero, List.set_cons_succ]
              refine wpAnyH_all (rs := [9]) (by kernel_rfl) (by simp) ?_
              intro i hi
              simp only [List.mem_cons, List.not_mem_nil, or_false] at hi
              subst hi
              have P_465 := Lib.hid (patsAt_built RI8.out PI8.out hln8.out B_458.out O_459.out K_462.out gz_426.out #[.slice A_460 (n + 1) c_461])
              have K_466 := Lib.hid (K_462.out.row #[.slice A_460 (n + 1) c_461])
              have B_467 := Lib.hid (below_setRow B_458.out gz_426.out #[.slice A_460 (n + 1) c_461])
              refine wpOp_of rfl rfl (wp_stored (cs := #[.slice A_460 (n + 1) c_461]) rfl rfl K_462.out infoG20 rfl (by simp [Value.oneCell']) ?_)
              refine ⟨B_467.out, ?_⟩
              clear B_458 K_462 L_463 N_464 O_459
              refine wpAnyH_done (by kernel_rfl) ?_ _
              go_wp2_with fail
              go_meet
              case rel => exact ⟨_, _, _, rfl, K_466.out, P_465.out, B_467.out⟩
            · have L_470 : Hid (Blk (w_429.alloc (.cells (patC p.1 A1 p.2.1.length c1 A2 p.2.2.length c2).toArray 64)) w_429.heap.size 64 (patC p.1 A1 p.2.1.length c1 A2 p.2.2.length c2).toArray) := Blk.new _ _ _
              have N_472 : Hid (∀ q, (Value.slice (some ⟨g_430, 0, none⟩) 0 0).ownBlock = some q → q ≠ w_429.heap.size) := fun q e => Nat.ne_of_lt (O_431.out.lt q e).2
              have h_471 : Below w_429.heap.size w_429 (w_429.alloc (.cells (patC p.1 A1 p.2.1.length c1 A2 p.2.2.length c2).toArray 64)) := below_new _ _
              refine wpOp_of rfl rfl (wp_lit1 patSl (cs := (patC p.1 A1 p.2.1.length c1 A2 p.2.2.length c2)) PI8.out.len4 (by omega) rfl ?_)
              refine ⟨ext_trans B_433.out h_471, ?_⟩
              simp only [Act.put, List.setIfInBounds_toArray, List.set_cons_zero, List.set_cons_succ]
              generalize (w_429.alloc (.cells (patC p.1 A1 p.2.1.length c1 A2 p.2.2.length c2).toArray 64)) = w_468 at *
              have B_473 := Lib.hid (ext_trans B_433.out h_471)
              have F_474 := Lib.hid (F_434.out.ext h_471)
              have F_475 := Lib.hid (own_ext O_431.out h_471)
              clear B_433 F_434 O_431
              clear h_471
              generalize w_429.heap.size = g_469 at *
              refine wpAnyH_all (rs := [3]) (by kernel_rfl) (by simp) ?_
              intro i hi
              simp only [List.mem_cons, List.not_mem_nil, or_false] at hi
              subst hi
              refine wpOp_of rfl rfl (wp_catF patSl F_475.out (SL8.out.below B_473.out (Nat.le_refl _)) one8.out B_473.out.size (by omega) (by unfold maxLen; omega) rfl rfl ?_)
              intro v_477 w_476 o_478 k_479 hv_480
              rw [Nat.zero_add, List.nil_append] at o_478
              have B_481 : Hid (Below w8.heap.size w8 w_476) := B_473.out.trans (k_479.below (fun k e => (F_475.out.lt k e).1) B_473.out.size)
              have K_485 := Lib.hid (k_479.blk F_474.out (blk_not_own F_474.out (by decide) F_475.out))
              have L_486 := Lib.hid (k_479.blk L_470.out (fun e => N_472.out _ e rfl))
              have N_487 : Hid (∀ q, v_477.ownBlock = some q → q ≠ g_469) := fun q e => (hv_480 q e).elim (fun e => N_472.out q e) (fun e => by have := L_470.out.lt; omega)
              have O_482 := Lib.hid o_478
              obtain ⟨A_483, c_484, rfl, _, _⟩ := Sl.of_own o_478
              refine ⟨B_481.out, ?_⟩
              simp only [Act.put, List.setIfInBounds_toArray, List.set_cons_zero, List.set_cons_succ]
              clear o_478 k_479 hv_480 B_473 F_474 F_475 L_470 N_472
              refine wpAnyH_all (rs := [6]) (by kernel_rfl) (by simp) ?_
              intro i hi
              simp only [List.mem_cons, List.not_mem_nil, or_false] at hi
              subst hi
              refine wpOp_of rfl rfl (wp_catF patSl O_482.out (sl_lit L_486.out PI8.out.len4) PI8.out.one B_481.out.size (by omega) (by unfold maxLen; omega) rfl rfl ?_)
              intro v_489 w_488 o_490 k_491 hv_492
              have B_493 : Hid (Below w8.heap.size w8 w_488) := B_481.out.trans (k_491.below (fun k e => (O_482.out.lt k e).1) B_481.out.size)
              have K_497 := Lib.hid (k_491.blk K_485.out (blk_not_own K_485.out (by decide) O_482.out))
              have L_498 := Lib.hid (k_491.blk L_486.out (fun e => N_487.out _ e rfl))
              have N_499 : Hid (∀ q, v_489.ownBlock = some q → q ≠ g_469) := fun q e => (hv_492 q e).elim (fun e => N_487.out q e) (fun e => by have := L_486.out.lt; omega)
              have O_494 := Lib.hid o_490
              obtain ⟨A_495, c_496, rfl, _, _⟩ := Sl.of_own o_490
              refine ⟨B_493.out, ?_⟩
              simp only [Act.put, List.setIfInBounds_toArray, List.set_cons_zero, List.set_cons_succ]
              clear o_490 k_491 hv_492 B_481 K_485 L_486 N_487 O_482
              refine takeV (i := 7) (d := 51) (v := .agg #[.slice A_495 (n + 1) c_496]) rfl (by kernel_rfl) (by kernel_rfl) (by kernel_rfl) (fun _ _ _ h => h) rfl (fun w' _ => exBuild (vs := #[(0, .slice A_495 (n + 1) c_496)]) (by simp only [List.map_toArray, List.map_cons, List.map_nil]; rfl) (buildG20 _ _ _ w')) B_493.out ?_
              simp only [Act.put, List.setIfInBounds_toArray, List.set_cons_zero, List.set_cons_succ]
              refine wpAnyH_all (rs := [9]) (by kernel_rfl) (by simp) ?_
              intro i hi
              simp only [List.mem_cons, List.not_mem_nil, or_false] at hi
              subst hi
              have P_500 := Lib.hid (patsAt_built RI8.out PI8.out hln8.out B_493.out O_494.out K_497.out gz_426.out #[.slice A_495 (n + 1) c_496])
              have K_501 := Lib.hid (K_497.out.row #[.slice A_495 (n + 1) c_496])
              have B_502 := Lib.hid (below_setRow B_493.out gz_426.out #[.slice A_495 (n + 1) c_496])
              refine wpOp_of rfl rfl (wp_stored (cs := #[.slice A_495 (n + 1) c_496]) rfl rfl K_497.out infoG20 rfl (by simp [Value.oneCell']) ?_)
              refine ⟨B_502.out, ?_⟩
              clear B_493 K_497 L_498 N_499 O_494
              refine wpAnyH_done (by kernel_rfl) ?_ _
              go_wp2_with fail
              go_meet
              case rel => exact ⟨_, _, _, rfl, K_501.out, P_500.out, B_502.out⟩
          · have L_505 : Hid (Blk (w_425.alloc (.cells (patC p.1 A1 p.2.1.length c1 A2 p.2.2.length c2).toArray 64)) w_425.heap.size 64 (patC p.1 A1 p.2.1.length c1 A2 p.2.2.length c2).toArray) := Blk.new _ _ _
            have h_506 : Below w_425.heap.size w_425 (w_425.alloc (.cells (patC p.1 A1 p.2.1.length c1 A2 p.2.2.length c2).toArray 64)) := below_new _ _
            refine wpOp_of rfl rfl (wp_lit1 patSl (cs := (patC p.1 A1 p.2.1.length c1 A2 p.2.2.length c2)) PI8.out.len4 (by omega) rfl ?_)
            refine ⟨ext_trans B_428.out h_506, ?_⟩
            simp only [Act.put, List.setIfInBounds_toArray, List.set_cons_zero, List.set_cons_succ]
            generalize (w_425.alloc (.cells (patC p.1 A1 p.2.1.length c1 A2 p.2.2.length c2).toArray 64)) = w_503 at *
            have B_507 := Lib.hid (ext_trans B_428.out h_506)
            have F_508 := Lib.hid (K_423.out.ext h_506)
            clear B_428 K_423
            clear h_506
            generalize w_425.heap.size = g_504 at *
            refine wpAnyH_all (rs := [0]) (by kernel_rfl) (by simp) ?_
            intro i hi
            simp only [List.mem_cons, List.not_mem_nil, or_false] at hi
            subst hi
            have O_511 : Hid ((w_503.alloc (.cells #[] 64)).ownsRow w8.heap.size 64 4 (.slice (some ⟨w_503.heap.size, 0, none⟩) 0 0) 0 []) := ⟨rfl, .inr ⟨w_503.heap.size, 0, #[], rfl, B_507.out.size, heap_alloc_new w_503 _, Nat.le_refl _, by simp, rfl, rfl⟩⟩
            have N_513 : Hid (∀ q, (Value.slice (some ⟨w_503.heap.size, 0, none⟩) 0 0).ownBlock = some q → q ≠ g_504) := fun q e => by have := L_505.out.lt; simp [Value.ownBlock] at e; omega
            have h_512 : Below w_503.heap.size w_503 (w_503.alloc (.cells #[] 64)) := below_new _ _
            refine wpOp_of rfl rfl (wp_built0 patSl ?_)
            refine ⟨ext_trans B_507.out h_512, ?_⟩
            simp only [Act.put, List.setIfInBounds_toArray, List.set_cons_zero, List.set_cons_succ]
            generalize (w_503.alloc (.cells #[] 64)) = w_509 at *
            have B_514 := Lib.hid (ext_trans B_507.out h_512)
            have F_515 := Lib.hid (F_508.out.ext h_512)
            have F_516 := Lib.hid (L_505.out.ext h_512)
            clear B_507 F_508 L_505
            clear h_512
            generalize w_503.heap.size = g_510 at *
            refine wpAnyH_all (rs := [3]) (by kernel_rfl) (by simp) ?_
            intro i hi
            simp only [List.mem_cons, List.not_mem_nil, or_false] at hi
            subst hi
            refine wpOp_of rfl rfl (wp_catF patSl O_511.out (SL8.out.below B_514.out (Nat.le_refl _)) one8.out B_514.out.size (by omega) (by unfold maxLen; omega) rfl rfl ?_)
            intro v_518 w_517 o_519 k_520 hv_521
            rw [Nat.zero_add, List.nil_append] at o_519
            have B_522 : Hid (Below w8.heap.size w8 w_517) := B_514.out.trans (k_520.below (fun k e => (O_511.out.lt k e).1) B_514.out.size)
            have K_526 := Lib.hid (k_520.blk F_515.out (blk_not_own F_515.out (by decide) O_511.out))
            have L_527 := Lib.hid (k_520.blk F_516.out (fun e => N_513.out _ e rfl))
            have N_528 : Hid (∀ q, v_518.ownBlock = some q → q ≠ g_504) := fun q e => (hv_521 q e).elim (fun e => N_513.out q e) (fun e => by have := F_516.out.lt; omega)
            have O_523 := Lib.hid o_519
            obtain ⟨A_524, c_525, rfl, _, _⟩ := Sl.of_own o_519
            refine ⟨B_522.out, ?_⟩
            simp only [Act.put, List.setIfInBounds_toArray, List.set_cons_zero, List.set_cons_succ]
            clear o_519 k_520 hv_521 B_514 F_515 F_516 O_511 N_513
            refine wpAnyH_all (rs := [6]) (by kernel_rfl) (by simp) ?_
            intro i hi
            simp only [List.mem_cons, List.not_mem_nil, or_false] at hi
            subst hi
            refine wpOp_of rfl rfl (wp_catF patSl O_523.out (sl_lit L_527.out PI8.out.len4) PI8.out.one B_522.out.size (by omega) (by unfold maxLen; omega) rfl rfl ?_)
            intro v_530 w_529 o_531 k_532 hv_533
            have B_534 : Hid (Below w8.heap.size w8 w_529) := B_522.out.trans (k_532.below (fun k e => (O_523.out.lt k e).1) B_522.out.size)
            have K_538 := Lib.hid (k_532.blk K_526.out (blk_not_own K_526.out (by decide) O_523.out))
            have L_539 := Lib.hid (k_532.blk L_527.out (fun e => N_528.out _ e rfl))
            have N_540 : Hid (∀ q, v_530.ownBlock = some q → q ≠ g_504) := fun q e => (hv_533 q e).elim (fun e => N_528.out q e) (fun e => by have := L_527.out.lt; omega)
            have O_535 := Lib.hid o_531
            obtain ⟨A_536, c_537, rfl, _, _⟩ := Sl.of_own o_531
            refine ⟨B_534.out, ?_⟩
            simp only [Act.put, List.setIfInBounds_toArray, List.set_cons_zero, List.set_cons_succ]
            clear o_531 k_532 hv_533 B_522 K_526 L_527 N_528 O_523
            refine takeV (i := 7) (d := 51) (v := .agg #[.slice A_536 (n + 1) c_537]) rfl (by kernel_rfl) (by kernel_rfl) (by kernel_rfl) (fun _ _ _ h => h) rfl (fun w' _ => exBuild (vs := #[(0, .slice A_536 (n + 1) c_537)]) (by simp only [List.map_toArray, List.map_cons, List.map_nil]; rfl) (buildG20 _ _ _ w')) B_534.out ?_
            simp only [Act.put, List.setIfInBounds_toArray, List.set_cons_zero, List.set_cons_succ]
            refine wpAnyH_all (rs := [9]) (by kernel_rfl) (by simp) ?_
            intro i hi
            simp only [List.mem_cons, List.not_mem_nil, or_false] at hi
            subst hi
            have P_541 := Lib.hid (patsAt_built RI8.out PI8.out hln8.out B_534.out O_535.out K_538.out gz_426.out #[.slice A_536 (n + 1) c_537])
            have K_542 := Lib.hid (K_538.out.row #[.slice A_536 (n + 1) c_537])
            have B_543 := Lib.hid (below_setRow B_534.out gz_426.out #[.slice A_536 (n + 1) c_537])
            refine wpOp_of rfl rfl (wp_stored (cs := #[.slice A_536 (n + 1) c_537]) rfl rfl K_538.out infoG20 rfl (by simp [Value.oneCell']) ?_)
            refine ⟨B_543.out, ?_⟩
            clear B_534 K_538 L_539 N_540 O_535
            refine wpAnyH_done (by kernel_rfl) ?_ _
            go_wp2_with fail
            go_meet
            case rel => exact ⟨_, _, _, rfl, K_542.out, P_541.out, B_543.out⟩
      case rest =>
        obtain ⟨ga, Aq, cq, rfl, kg, pq, bx⟩ := hcut
        obtain ⟨ws, rfl⟩ : ∃ wx, wx = wc := ⟨_, rfl⟩
        have KG6 := Lib.hid kg
        have PQ := Lib.hid pq
        have KP6 := Lib.hid (KP8.out.ext bx)
        have BS6 := Lib.hid (BW.out.trans (bx.mono BW.out.size))
        have hnq : Hid (n + 1 ≤ maxLen) := by rw [Hid]; unfold maxLen; omega
        have EK : Hid (∀ b, p.2.2.all (opR (L ++ [p])) = b → refK L p = if b = true then 0 else 10) := fun b e => by
          cases b
          · exact refK_10 hg.out hh.out hb.out TD.out e
          · exact refK_0 hg.out hh.out hb.out TD.out e
        clear kg pq bx KP8 KG8 RI8 SL8 one8 PI8 hln8 hln BW TD
        generalize L ++ [p] = LP at *
        obtain ⟨m, hm⟩ : ∃ m, m = p.2.2.length := ⟨_, rfl⟩
        rw [← hm] at O1 KP6 m2
        replace hm := Lib.hid hm
        have BZ := Lib.hid (Below.refl ws.heap.size ws)
        go_wp2_with fail
        go_loopw [7] (fun i wr => ∃ k : Nat, k ≤ m ∧ i = .int .i64 k ∧ Hid ((p.2.2.take k).all (opR LP) = true) ∧ Hid (Below ws.heap.size ws wr)) (fun i _ => m - (intOf i).toNat)
        case atStart => exact ⟨0, by omega, rfl, rfl, BZ.out⟩
        case round =>
          clear BZ
          obtain ⟨k, hk, rfl, TT, B⟩ := hrel
          obtain ⟨wi, rfl⟩ : ∃ wx, wx = wr := ⟨_, rfl⟩
          have hk0 : (0 : Int) ≤ (k : Int) := by omega
          have BW := Lib.hid (BS6.out.trans (B.out.mono BS6.out.size))
          have yo : wi.cell? ⟨g1, 3, none⟩ = some (.slice A2 m c2) := (KP6.out.ext B.out).cell 3
          by_cases hlt : k < m
          · have hlk : (k : Int) < (m : Int) := by omega
            obtain ⟨b, o, x, rfl, hb', hx, R, _⟩ := (O1.out.ext BW.out).at_ hlt
            have R := Lib.hid R
            have hkd := Lib.hid (hkinds.out k x hx)
            have NF : Hid (opR LP x = false → refK L p = 10) := fun e => EK.out false (allL_false hx e)
            have NT : Hid (opR LP x = true → (p.2.2.take (k + 1)).all (opR LP) = true) := fun e => allL_snoc hx TT.out e
            clear hx TT hb'
            have KO6 : Hid (Blk ((wi.alloc (.cells #[.int .u8 0, .int .u8 0, .int .u16 0, .int .u8 0, .int .u8 0, .int .u16 0, .int .u8 0, .string ByteArray.empty] 152)).setRow wi.heap.size (encO x).toArray) wi.heap.size 152 (encO x).toArray) := (Blk.new _ _ _).row _
            have BO : Hid (Below wi.heap.size wi ((wi.alloc (.cells #[.int .u8 0, .int .u8 0, .int .u16 0, .int .u8 0, .int .u8 0, .int .u16 0, .int .u8 0, .string ByteArray.empty] 152)).setRow wi.heap.size (encO x).toArray)) := below_setRow ((Below.refl _ _).alloc (Nat.le_refl _) _) (Nat.le_refl _) _
            go_upto_region 17 with (first
              | (refine wpList_load_mid rfl 152 _ (by rfl) b (o + k * 8) (by rfl) _ _ R.out underOp rfl infoOp ?_)
              | (refine wpList_alloced (allocOp20 _) ?_)
              | (refine wpList_store_row rfl 152 _ _ (by rfl) wi.heap.size (encO x).toArray (by rfl) (by rfl) _ _ (Blk.new _ _ _) infoOp rfl (encO_all _) ?_))
            clear yo R
            have B16 := Lib.hid (B.out.trans (BO.out.mono B.out.size))
            clear BO B BW
            generalize ((wi.alloc (.cells #[.int .u8 0, .int .u8 0, .int .u16 0, .int .u8 0, .int .u8 0, .int .u16 0, .int .u8 0, .string ByteArray.empty] 152)).setRow wi.heap.size (encO x).toArray) = w16 at *
            generalize wi.heap.size = go at *
            have RA := Lib.hid (opv_at (blk_pat KO6.out))
            have KG16 := Lib.hid (KG6.out.ext B16.out)
            have HV1 := Lib.hid (rvert20_any LP w16 Aq (n + 1) cq hnq.out (PQ.out.ext B16.out) x.2.1)
            obtain ⟨a, ha⟩ : ∃ a, a = vertD LP x.2.1 := ⟨_, rfl⟩
            obtain ⟨ok, hok⟩ : ∃ ok, ok = (vertV LP x.2.1).isSome := ⟨_, rfl⟩
            rw [← ha, ← hok] at HV1
            replace ha := Lib.hid ha
            replace hok := Lib.hid hok
            go_wp2_with (first
              | (refine wpList_load_row rfl 182 _ (by rfl) ga (by rfl) _ _ _ _ KG16.out underG20 rfl infoG20 ?_)
              | (refine wpList_load_mid rfl 98 _ (by rfl) go (0 + 1) (by rfl) _ _ RA.out underVid rfl infoVid ?_))
            refine HV1.out.mono ?_
            rintro e w17 ⟨rfl, b17⟩
            have KX : Hid (Blk ((w17.alloc (.cells zeroX 100)).setRow w17.heap.size (encX a).toArray) w17.heap.size 100 (encX a).toArray) := (Blk.new _ _ _).row _
            have BN : Hid (Below w17.heap.size w17 ((w17.alloc (.cells zeroX 100)).setRow w17.heap.size (encX a).toArray)) := below_setRow (below_new w17 _) (Nat.le_refl _) _
            have B17 := Lib.hid (B16.out.trans (b17.mono B16.out.size))
            have KO17 := Lib.hid (KO6.out.ext b17)
            clear b17 HV1 RA KG16 KO6 B16
            go_upto_region 18 with (first
              | (refine wpList_alloced (allocVert _) ?_)
              | (refine wpList_store_row rfl 100 _ _ (by rfl) w17.heap.size (encX a).toArray (by rfl) (by rfl) _ _ (Blk.new _ _ _) infoVert rfl (encX_all _) ?_))
            have B18 := Lib.hid (B17.out.trans (BN.out.mono B17.out.size))
            have KO18 := Lib.hid (KO17.out.ext BN.out)
            clear BN B17 KO17
            generalize ((w17.alloc (.cells zeroX 100)).setRow w17.heap.size (encX a).toArray) = w18 at *
            generalize w17.heap.size = gx at *
            have RT := Lib.hid (opv_to (blk_pat KO18.out))
            have KG18 := Lib.hid (KG6.out.ext B18.out)
            have HV2 := Lib.hid (rvert20_any LP w18 Aq (n + 1) cq hnq.out (PQ.out.ext B18.out) x.2.2.1)
            obtain ⟨d, hd⟩ : ∃ a, a = vertD LP x.2.2.1 := ⟨_, rfl⟩
            obtain ⟨okd, hokd⟩ : ∃ ok, ok = (vertV LP x.2.2.1).isSome := ⟨_, rfl⟩
            rw [← hd, ← hokd] at HV2
            replace hd := Lib.hid hd
            replace hokd := Lib.hid hokd
            go_wp2_with (first
              | (refine wpList_load_row rfl 182 _ (by rfl) ga (by rfl) _ _ _ _ KG18.out underG20 rfl infoG20 ?_)
              | (refine wpList_load_mid rfl 98 _ (by rfl) go (0 + 4) (by rfl) _ _ RT.out underVid rfl infoVid ?_))
            refine HV2.out.mono ?_
            rintro e w19 ⟨rfl, b19⟩
            have KY : Hid (Blk ((w19.alloc (.cells zeroX 100)).setRow w19.heap.size (encX d).toArray) w19.heap.size 100 (encX d).toArray) := (Blk.new _ _ _).row _
            have BN : Hid (Below w19.heap.size w19 ((w19.alloc (.cells zeroX 100)).setRow w19.heap.size (encX d).toArray)) := below_setRow (below_new w19 _) (Nat.le_refl _) _
            have B19 := Lib.hid (B18.out.trans (b19.mono B18.out.size))
            have KO19 := Lib.hid (KO18.out.ext b19)
            have KX19 := Lib.hid (KX.out.ext b19)
            clear b19 HV2 RT KG18 KO18 B18 KX
            go_upto_region 19 with (first
              | (refine wpList_alloced (allocVert _) ?_)
              | (refine wpList_store_row rfl 100 _ _ (by rfl) w19.heap.size (encX d).toArray (by rfl) (by rfl) _ _ (Blk.new _ _ _) infoVert rfl (encX_all _) ?_))
            have B20 := Lib.hid (B19.out.trans (BN.out.mono B19.out.size))
            have KO20 := Lib.hid (KO19.out.ext BN.out)
            have KX20 := Lib.hid (KX19.out.ext BN.out)
            clear BN B19 KO19 KX19
            generalize ((w19.alloc (.cells zeroX 100)).setRow w19.heap.size (encX d).toArray) = w20 at *
            generalize w19.heap.size = gy at *
            have yk : w20.cell? ⟨go, 0, none⟩ = some (.int .u8 ((x.1.val : Nat) : Int)) := KO20.out.cell 0
            have ya : w20.cell? ⟨gx, 3, none⟩ = some (.int .u8 ((a.2.1.val : Nat) : Int)) := KX20.out.cell 3
            have BF := Lib.hid (BS6.out.trans (B20.out.mono BS6.out.size))
            have hc5 : x.1.val = 1 ∨ x.1.val = 2 ∨ x.1.val = 3 ∨ x.1.val = 4 ∨ x.1.val = 5 := by have := hkd.out; omega
            rcases hc5 with h1 | h1 | h1 | h1 | h1
            · rw [h1] at yk
              replace yk : w20.cell? ⟨go, 0, none⟩ = some (.int .u8 1) := yk
              have N := Lib.hid (NT.out (opR_1 h1))
              clear NF NT ya
              replace h1 := Lib.hid h1
              go_wp2_with fail
              go_roundw
              case rel => exact ⟨k + 1, by omega, by go_num, N.out, B20.out⟩
              case measure => simp [intOf]; omega
            · rw [h1] at yk
              replace yk : w20.cell? ⟨go, 0, none⟩ = some (.int .u8 2) := yk
              cases ok
              · have N := Lib.hid (NF.out (opR_no (by omega) hok.out.symm))
                clear NF NT ya
                replace h1 := Lib.hid h1
                go_wp2_with fail
                go_ret
                exact ⟨by rw [N.out]; rfl, BF.out⟩
              · have E2 := Lib.hid (opR_23 (.inl h1) hok.out.symm)
                rw [← ha.out] at E2
                replace h1 := Lib.hid h1
                by_cases hk1 : a.2.1.val = 1
                · rw [decide_eq_true hk1] at E2
                  have N := Lib.hid (NT.out E2.out)
                  rw [hk1] at ya
                  replace ya : w20.cell? ⟨gx, 3, none⟩ = some (.int .u8 1) := ya
                  clear NF NT E2
                  replace hk1 := Lib.hid hk1
                  go_wp2_with fail
                  go_roundw
                  case rel => exact ⟨k + 1, by omega, by go_num, N.out, B20.out⟩
                  case measure => simp [intOf]; omega
                · rw [decide_eq_false hk1] at E2
                  have N := Lib.hid (NF.out E2.out)
                  have za : (((a.2.1.val : Nat) : Int) != 1) = true := by rw [bne_iff_ne]; omega
                  clear NF NT E2
                  replace hk1 := Lib.hid hk1
                  go_wp2_with fail
                  go_ret
                  exact ⟨by rw [N.out]; rfl, BF.out⟩
            · rw [h1] at yk
              replace yk : w20.cell? ⟨go, 0, none⟩ = some (.int .u8 3) := yk
              cases ok
              · have N := Lib.hid (NF.out (opR_no (by omega) hok.out.symm))
                clear NF NT ya
                replace h1 := Lib.hid h1
                go_wp2_with fail
                go_ret
                exact ⟨by rw [N.out]; rfl, BF.out⟩
              · have E2 := Lib.hid (opR_23 (.inr h1) hok.out.symm)
                rw [← ha.out] at E2
                replace h1 := Lib.hid h1
                by_cases hk1 : a.2.1.val = 1
                · rw [decide_eq_true hk1] at E2
                  have N := Lib.hid (NT.out E2.out)
                  rw [hk1] at ya
                  replace ya : w20.cell? ⟨gx, 3, none⟩ = some (.int .u8 1) := ya
                  clear NF NT E2
                  replace hk1 := Lib.hid hk1
                  go_wp2_with fail
                  go_roundw
                  case rel => exact ⟨k + 1, by omega, by go_num, N.out, B20.out⟩
                  case measure => simp [intOf]; omega
                · rw [decide_eq_false hk1] at E2
                  have N := Lib.hid (NF.out E2.out)
                  have za : (((a.2.1.val : Nat) : Int) != 1) = true := by rw [bne_iff_ne]; omega
                  clear NF NT E2
                  replace hk1 := Lib.hid hk1
                  go_wp2_with fail
                  go_ret
                  exact ⟨by rw [N.out]; rfl, BF.out⟩
            · rw [h1] at yk
              replace yk : w20.cell? ⟨go, 0, none⟩ = some (.int .u8 4) := yk
              cases ok
              · have N := Lib.hid (NF.out (opR_no (by omega) hok.out.symm))
                clear NF NT ya
                replace h1 := Lib.hid h1
                go_wp2_with fail
                go_ret
                exact ⟨by rw [N.out]; rfl, BF.out⟩
              · have E4 := Lib.hid (opR_4 h1 hok.out.symm)
                rw [← ha.out, ← hd.out] at E4
                have KG20 := Lib.hid (KG6.out.ext B20.out)
                have PQ20 := Lib.hid (PQ.out.ext B20.out)
                have z0 : w20.cell? ⟨ga, 0, none⟩ = some (.slice Aq (n + 1) cq) := KG20.out.cell 0
                have z1 : w20.cell? ⟨go, 1, none⟩ = some (.int .u8 ((x.2.1.1.1.val : Nat) : Int)) := KO20.out.cell 1
                have z2 : w20.cell? ⟨go, 2, none⟩ = some (.int .u16 ((x.2.1.1.2.val : Nat) : Int)) := KO20.out.cell 2
                have z3 : w20.cell? ⟨go, 3, none⟩ = some (.int .u8 ((x.2.1.2.val : Nat) : Int)) := KO20.out.cell 3
                have HI1 : Hid (Calls Tryz.prog 216 #[.agg #[.slice Aq (n + 1) cq], .agg (encV x.2.1).toArray, .int .u8 3] w20 (RetB w20 (.bool (isR LP x.2.1 3)))) := ris20_any LP w20 Aq (n + 1) cq hnq.out PQ20.out x.2.1 3
                clear ya
                replace h1 := Lib.hid h1
                cases h3 : isR LP x.2.1 3
                · rw [h3] at HI1 E4
                  rw [Bool.false_and] at E4
                  have N := Lib.hid (NF.out E4.out)
                  clear NF NT h3 E4 PQ20 KG20
                  go_wp2_with fail
                  refine HI1.out.mono ?_
                  rintro e w21 ⟨rfl, b21⟩
                  have BF := Lib.hid (BF.out.trans (b21.mono BF.out.size))
                  clear b21 HI1 yk z0 z1 z2 z3
                  go_wp2_with fail
                  go_ret
                  exact ⟨by rw [N.out]; rfl, BF.out⟩
                · rw [h3] at HI1 E4
                  rw [Bool.true_and] at E4
                  clear h3
                  go_wp2_with fail
                  refine HI1.out.mono ?_
                  rintro e w21 ⟨rfl, b21⟩
                  have BF := Lib.hid (BF.out.trans (b21.mono BF.out.size))
                  have B21 := Lib.hid (B20.out.trans (b21.mono B20.out.size))
                  have KO21 := Lib.hid (KO20.out.ext b21)
                  have KX21 := Lib.hid (KX20.out.ext b21)
                  have KY21 := Lib.hid (KY.out.ext b21)
                  have KG21 := Lib.hid (KG20.out.ext b21)
                  have PQ21 := Lib.hid (PQ20.out.ext b21)
                  clear b21 HI1 yk z0 z1 z2 z3 KO20 KX20 KY KG20 PQ20 B20
                  have z0 : w21.cell? ⟨ga, 0, none⟩ = some (.slice Aq (n + 1) cq) := KG21.out.cell 0
                  have z1 : w21.cell? ⟨go, 4, none⟩ = some (.int .u8 ((x.2.2.1.1.1.val : Nat) : Int)) := KO21.out.cell 4
                  have z2 : w21.cell? ⟨go, 5, none⟩ = some (.int .u16 ((x.2.2.1.1.2.val : Nat) : Int)) := KO21.out.cell 5
                  have z3 : w21.cell? ⟨go, 6, none⟩ = some (.int .u8 ((x.2.2.1.2.val : Nat) : Int)) := KO21.out.cell 6
                  have HI2 : Hid (Calls Tryz.prog 216 #[.agg #[.slice Aq (n + 1) cq], .agg (encV x.2.2.1).toArray, .int .u8 3] w21 (RetB w21 (.bool (isR LP x.2.2.1 3)))) := ris20_any LP w21 Aq (n + 1) cq hnq.out PQ21.out x.2.2.1 3
                  cases h4 : isR LP x.2.2.1 3
                  · rw [h4] at HI2 E4
                    rw [Bool.false_and] at E4
                    have N := Lib.hid (NF.out E4.out)
                    clear NF NT h4 E4 PQ21 KG21
                    go_wp2_with fail
                    refine HI2.out.mono ?_
                    rintro e w22 ⟨rfl, b22⟩
                    have BF := Lib.hid (BF.out.trans (b22.mono BF.out.size))
                    clear b22 HI2 z0 z1 z2 z3
                    go_wp2_with fail
                    go_ret
                    exact ⟨by rw [N.out]; rfl, BF.out⟩
                  · rw [h4] at HI2 E4
                    rw [Bool.true_and] at E4
                    clear h4
                    go_wp2_with fail
                    refine HI2.out.mono ?_
                    rintro e w22 ⟨rfl, b22⟩
                    have BF := Lib.hid (BF.out.trans (b22.mono BF.out.size))
                    have B22 := Lib.hid (B21.out.trans (b22.mono B21.out.size))
                    have KX22 := Lib.hid (KX21.out.ext b22)
                    have KY22 := Lib.hid (KY21.out.ext b22)
                    clear b22 HI2 z0 z1 z2 z3 KO21 KX21 KY21 KG21 PQ21 B21
                    have RX := Lib.hid (vx_file (blk_pat KX22.out))
                    have RY := Lib.hid (vx_file (blk_pat KY22.out))
                    rw [Nat.zero_add] at RX RY
                    by_cases hfe : a.2.2.1 = d.2.2.1
                    · have NEQ := neqf20 hfe
                      rw [decide_eq_true hfe] at E4
                      have N := Lib.hid (NT.out E4.out)
                      clear NF NT E4 hfe
                      go_wp2_with (first
                        | (refine wpList_load_midG (by kernel_rfl) 98 _ (by rfl) gx 4 (by rfl) _ _ RX.out underVid rfl infoVid ?_)
                        | (refine wpList_load_midG (by kernel_rfl) 98 _ (by rfl) gy 4 (by rfl) _ _ RY.out underVid rfl infoVid ?_))
                      go_roundw
                      case rel => exact ⟨k + 1, by omega, by go_num, N.out, B22.out⟩
                      case measure => simp [intOf]; omega
                    · have NEQ := neqt20 hfe
                      rw [decide_eq_false hfe] at E4
                      have N := Lib.hid (NF.out E4.out)
                      clear NF NT E4 hfe
                      go_wp2_with (first
                        | (refine wpList_load_midG (by kernel_rfl) 98 _ (by rfl) gx 4 (by rfl) _ _ RX.out underVid rfl infoVid ?_)
                        | (refine wpList_load_midG (by kernel_rfl) 98 _ (by rfl) gy 4 (by rfl) _ _ RY.out underVid rfl infoVid ?_))
                      go_ret
                      exact ⟨by rw [N.out]; rfl, BF.out⟩
            · rw [h1] at yk
              replace yk : w20.cell? ⟨go, 0, none⟩ = some (.int .u8 5) := yk
              cases ok
              · have N := Lib.hid (NF.out (opR_no (by omega) hok.out.symm))
                clear NF NT ya
                replace h1 := Lib.hid h1
                go_wp2_with fail
                go_ret
                exact ⟨by rw [N.out]; rfl, BF.out⟩
              · have N := Lib.hid (NT.out (opR_5 h1 hok.out.symm))
                clear NF NT ya
                replace h1 := Lib.hid h1
                go_wp2_with fail
                go_roundw
                case rel => exact ⟨k + 1, by omega, by go_num, N.out, B20.out⟩
                case measure => simp [intOf]; omega
          · have hlk : ¬ (k : Int) < (m : Int) := by omega
            have N : Hid (refK L p = 0) := by
              have h1 := TT.out
              rw [List.take_of_length_le (by rw [← hm.out]; omega)] at h1
              exact EK.out true h1
            go_wp2_with fail
            go_ret
            exact ⟨by rw [N.out]; rfl, BW.out⟩
end Go.Proofs.YtdafiipedlglpaaGreatDoor
