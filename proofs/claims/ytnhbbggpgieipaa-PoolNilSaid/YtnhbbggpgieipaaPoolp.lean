/- Of a nil pool there is nothing; what is written into a patch that went in, or came out, turns nothing: walked. -/
import Derived.Test.YtnhbbggpgieipaaPoolx
import Derived.Test.YtnhbbggpgieipaaPoolm
namespace Go.Proofs.Ytnhbbggpgieipaa
open Go.RowKit

theorem pol3 (p : PatV) : (patB p = true ∧ polE 3 [] p = 0 ∧ polL 3 [] p = [p]) ∨ (polE 3 [] p = 1 ∧ polL 3 [] p = []) := by
  cases h : patB p
  · right
    have e := polE_1 (room := 3) (L := []) h
    exact ⟨e, by unfold polL; rw [e]; rfl⟩
  · left
    have e : polE 3 [] p = 0 := polE_0 h rfl (by decide)
    exact ⟨rfl, e, by unfold polL; rw [e]; rfl⟩
theorem neqBl (u : World) : (binOp .neq 79 (.agg #[.int .u64 0, .int .u64 0, .int .u64 0, .int .u64 0]) (.agg #[.int .u64 0, .int .u64 0, .int .u64 0, .int .u64 0])).run Try.prog u = .ok (.bool false) u := by kernel_rfl
set_option maxRecDepth 100000 in
set_option maxHeartbeats 8000000 in
theorem poolNil_walk (w : World) (p : PatV) (cs : List Value) (hp : PatAt w cs p) (v : List Int) (hv : VecOk v) (room : Int) (_ : (Lit.int .i64 room).wf = true) :
    Calls Try.prog 9 #[.agg cs.toArray, .agg (vecA v), .int .i64 room] w (RetB w (.bool true)) := by
  have PA0 := Lib.hid hp
  obtain ⟨⟨A, c, A', c', rfl, _, _⟩, _, _⟩ := hp
  have HV := Lib.hid hv
  have hs1 : Hid ((Try.prog.info? 25).map (·.size) = some (vecA v).size) := by rw [Hid, vecA_size, hv.len]; exact info64
  have K1 : Hid (Blk ((w.alloc (.cells (patC p.1 A p.2.1.length c A' p.2.2.length c').toArray 45)).alloc (.cells (vecA v) 25)) w.heap.size 45 (patC p.1 A p.2.1.length c A' p.2.2.length c').toArray) := (Blk.new _ _ _).alloc _
  have KV : Hid (Blk ((w.alloc (.cells (patC p.1 A p.2.1.length c A' p.2.2.length c').toArray 45)).alloc (.cells (vecA v) 25)) (w.heap.size + 1) 25 (vecA v)) := Blk.newAt (by simp) _ _
  have B0 : Hid (Below w.heap.size w ((w.alloc (.cells (patC p.1 A p.2.1.length c A' p.2.2.length c').toArray 45)).alloc (.cells (vecA v) 25))) := ((Below.refl _ _).alloc (Nat.le_refl _) _).alloc (by simp) _
  clear hv
  go_enter Try.func9, Try.ntmps9
  go_upto_region 1 with fail
  generalize ((w.alloc (.cells (patC p.1 A p.2.1.length c A' p.2.2.length c').toArray 45)).alloc (.cells (vecA v) 25)) = w2 at *
  have PA := Lib.hid (PA0.out.ext B0.out)
  generalize w.heap.size + 1 = gv at *
  obtain ⟨g1, hg1⟩ : ∃ g1, g1 = w.heap.size := ⟨_, rfl⟩
  rw [← hg1] at K1 ⊢
  replace hg1 := Lib.hid hg1
  have PS := Lib.hid (pats_one PA.out)
  have M3 : Hid (Below w2.heap.size w2 (w2.alloc (.cells (patC p.1 A p.2.1.length c A' p.2.2.length c').toArray 45))) := below_new _ _
  go_wp2_with (first
    | (refine wpList_load_row rfl 45 _ (by rfl) g1 (by rfl) _ _ _ _ K1.out underPat rfl infoPat ?_)
    | (refine wpList_lit1 patSl (cs := patC p.1 A p.2.1.length c A' p.2.2.length c') rfl (by omega) (by rfl) ?_))
  have PA := Lib.hid (PA.out.ext M3.out)
  have K1 := Lib.hid (K1.out.ext M3.out)
  have KV := Lib.hid (KV.out.ext M3.out)
  have B3 := Lib.hid (B0.out.trans (M3.out.mono B0.out.size))
  clear M3
  clear B0
  generalize (w2.alloc (.cells (patC p.1 A p.2.1.length c A' p.2.2.length c').toArray 45)) = w3 at *
  generalize w2.heap.size = g2 at *
  have HF := Lib.hid (few20_any [p] w3 _ 1 1 1 PS.out (by decide))
  clear PS
  cases hf : fewsB [p] 1
  · rw [fewsN_false hf] at HF
    refine HF.out.mono ?_
    rintro e w4 ⟨rfl, b4⟩
    have B4 := Lib.hid (B3.out.trans (b4.mono B3.out.size))
    clear b4 HF
    go_wp2_with fail
    refine (works32 _).mono ?_
    rintro e w5 ⟨rfl, b5⟩
    have B5 := Lib.hid (B4.out.trans (b5.mono B4.out.size))
    clear b5
    go_wp2
    go_ret
    exact ⟨rfl, B5.out⟩
  · rw [fewsN_true hf] at HF
    have HQ : Hid (p.2.1.length ≤ 100 ∧ p.2.2.length ≤ 60) := (fews_at hf).2 p (by simp)
    refine HF.out.mono ?_
    rintro e w4 ⟨rfl, b4⟩
    have PA := Lib.hid (PA.out.ext b4)
    have K1 := Lib.hid (K1.out.ext b4)
    have KV := Lib.hid (KV.out.ext b4)
    have B4 := Lib.hid (B3.out.trans (b4.mono B3.out.size))
    clear b4 HF B3 hf
    -- nil
    have HN := Lib.hid (fun u => readyPl_nil v u)
    go_wp2_with (refine wpList_load_row rfl 25 _ (by rfl) gv (by rfl) _ _ _ _ KV.out under64 rfl hs1.out ?_)
    refine (HN.out _).mono ?_
    rintro e w5 ⟨rfl, b5⟩
    have BA : Hid (Below w5.heap.size w5 ((w5.alloc (.cells #[.int .u8 0, .int .u16 0, .slice none 0 0, .slice none 0 0] 45)).setRow w5.heap.size #[.int .u8 0, .int .u16 0, .slice none 0 0, .slice none 0 0])) := below_setRow ((Below.refl _ _).alloc (Nat.le_refl _) _) (Nat.le_refl _) _
    have PA := Lib.hid (PA.out.ext b5)
    have K1 := Lib.hid (K1.out.ext b5)
    have KV := Lib.hid (KV.out.ext b5)
    have B5 := Lib.hid (B4.out.trans (b5.mono B4.out.size))
    clear b5 HN B4
    go_upto_region 5 with (first
      | (refine wpList_alloced (allocPat _) ?_)
      | (refine wpList_store_row rfl 45 _ _ (by rfl) w5.heap.size #[.int .u8 0, .int .u16 0, .slice none 0 0, .slice none 0 0] (by rfl) (by rfl) _ _ (Blk.new _ _ _) infoPat rfl zeroC_one ?_))
    generalize ((w5.alloc (.cells #[.int .u8 0, .int .u16 0, .slice none 0 0, .slice none 0 0] 45)).setRow w5.heap.size #[.int .u8 0, .int .u16 0, .slice none 0 0, .slice none 0 0]) = w6 at *
    have PA := Lib.hid (PA.out.ext BA.out)
    have K1 := Lib.hid (K1.out.ext BA.out)
    have KV := Lib.hid (KV.out.ext BA.out)
    have B6 := Lib.hid (B5.out.trans (BA.out.mono B5.out.size))
    clear BA B5
    generalize w5.heap.size = g5 at *
    have N1 := Lib.hid (fun u => putPl_nil (patC p.1 A p.2.1.length c A' p.2.2.length c').toArray u)
    go_wp2_with (refine wpList_load_row rfl 45 _ (by rfl) g1 (by rfl) _ _ _ _ K1.out underPat rfl infoPat ?_)
    refine (N1.out _).mono ?_
    rintro e w7 ⟨rfl, b7⟩
    have PA := Lib.hid (PA.out.ext b7)
    have K1 := Lib.hid (K1.out.ext b7)
    have KV := Lib.hid (KV.out.ext b7)
    have B7 := Lib.hid (B6.out.trans (b7.mono B6.out.size))
    clear b7 N1 B6
    have R1 := Lib.hid (patC_pid K1.out)
    have N2 := Lib.hid (fun u => dropPl_nil p.1 u)
    go_wp2_with (refine wpList_load_midG (by rfl) 41 _ (by rfl) g1 0 (by rfl) _ _ R1.out underPid rfl infoPid ?_)
    refine (N2.out _).mono ?_
    rintro e w8 ⟨rfl, b8⟩
    have PA := Lib.hid (PA.out.ext b8)
    have K1 := Lib.hid (K1.out.ext b8)
    have KV := Lib.hid (KV.out.ext b8)
    have B8 := Lib.hid (B7.out.trans (b8.mono B7.out.size))
    clear b8 N2 B7 R1
    have N3 := Lib.hid (fun u => prunePl_nil v u)
    go_wp2_with (refine wpList_load_rowG (by rfl) 25 _ (by rfl) gv (by rfl) _ _ _ _ KV.out under64 rfl hs1.out ?_)
    refine (N3.out _).mono ?_
    rintro e w9 ⟨rfl, b9⟩
    have PA := Lib.hid (PA.out.ext b9)
    have K1 := Lib.hid (K1.out.ext b9)
    have B9 := Lib.hid (B8.out.trans (b9.mono B8.out.size))
    clear b9 N3 B8 KV hs1
    go_wp2_with fail
    refine (lenPl_nil _).mono ?_
    rintro e w10 ⟨rfl, b10⟩
    have PA := Lib.hid (PA.out.ext b10)
    have K1 := Lib.hid (K1.out.ext b10)
    have B10 := Lib.hid (B9.out.trans (b10.mono B9.out.size))
    clear b10 B9
    go_wp2_with fail
    refine (roomPl_nil _).mono ?_
    rintro e w11 ⟨rfl, b11⟩
    have PA := Lib.hid (PA.out.ext b11)
    have K1 := Lib.hid (K1.out.ext b11)
    have B11 := Lib.hid (B10.out.trans (b11.mono B10.out.size))
    clear b11 B10
    go_wp2_with fail
    refine (allPl_nil _).mono ?_
    rintro e w12 ⟨rfl, b12⟩
    have PA := Lib.hid (PA.out.ext b12)
    have K1 := Lib.hid (K1.out.ext b12)
    have B12 := Lib.hid (B11.out.trans (b12.mono B11.out.size))
    clear b12 B11
    go_wp2_with fail
    refine (bloomPl_nil _).mono ?_
    rintro e w13 ⟨rfl, b13⟩
    have PA := Lib.hid (PA.out.ext b13)
    have K1 := Lib.hid (K1.out.ext b13)
    have B13 := Lib.hid (B12.out.trans (b13.mono B12.out.size))
    clear b13 B12
    have NB := neqBl
    have K1x : Hid (g1 < w13.heap.size) := K1.out.lt
    go_wp2_with fail
    refine (newPl_any 3 _).mono ?_
    rintro e w14 ⟨g, rfl, hP, b14⟩
    rw [w32_room] at hP
    clear NB
    have PA := Lib.hid (PA.out.ext b14)
    have K1 := Lib.hid (K1.out.ext b14)
    have HP := Lib.hid hP
    have B14 := Lib.hid (B13.out.trans (b14.mono B13.out.size))
    have hF14 : Hid (∀ k, (fun k => w13.heap.size ≤ k ∧ k < w14.heap.size) k → w.heap.size ≤ k ∧ k < w14.heap.size) := fun k e => ⟨Nat.le_trans B13.out.size e.1, e.2⟩
    have hg1w : Hid (g1 < w13.heap.size) := K1x.out
    have K1w : Hid (g1 < w14.heap.size) := K1.out.lt
    have hFg : Hid (¬ (fun k => w13.heap.size ≤ k ∧ k < w14.heap.size) g1) := fun e => absurd hg1w.out (Nat.not_lt.2 e.1)
    clear b14 hP B13 hg1w K1x
    generalize (fun k => w13.heap.size ≤ k ∧ k < w14.heap.size) = F at *
    -- the patch that goes in
    have K15 : Hid (Blk ((w14.alloc (.cells #[.int .u8 0, .int .u16 0, .slice none 0 0, .slice none 0 0] 45)).setRow w14.heap.size (patC p.1 A p.2.1.length c A' p.2.2.length c').toArray) w14.heap.size 45 (patC p.1 A p.2.1.length c A' p.2.2.length c').toArray) := (Blk.new _ _ _).row _
    have BA : Hid (Below w14.heap.size w14 ((w14.alloc (.cells #[.int .u8 0, .int .u16 0, .slice none 0 0, .slice none 0 0] 45)).setRow w14.heap.size (patC p.1 A p.2.1.length c A' p.2.2.length c').toArray)) := below_setRow ((Below.refl _ _).alloc (Nat.le_refl _) _) (Nat.le_refl _) _
    go_upto_region 9 with (first
      | (refine wpList_load_row rfl 45 _ (by rfl) g1 (by rfl) _ _ _ _ K1.out underPat rfl infoPat ?_)
      | (refine wpList_alloced (allocPat _) ?_)
      | (refine wpList_store_row rfl 45 _ _ (by rfl) w14.heap.size (patC p.1 A p.2.1.length c A' p.2.2.length c').toArray (by rfl) (by rfl) _ _ (Blk.new _ _ _) infoPat rfl patC_one ?_))
    have PA := Lib.hid (PA.out.ext BA.out)
    have K1 := Lib.hid (K1.out.ext BA.out)
    have HP := Lib.hid (HP.out.ext BA.out)
    have B15 := Lib.hid (B14.out.trans (BA.out.mono B14.out.size))
    have hg15 : Hid (∀ k, F k → k < w14.heap.size) := fun k e => (hF14.out k e).2
    have hgw : Hid (w.heap.size ≤ w14.heap.size) := B14.out.size
    have hg1go : Hid (g1 < w14.heap.size) := K1w.out
    have hFg1 : Hid (¬ F g1) := hFg.out
    clear BA B14
    generalize ((w14.alloc (.cells #[.int .u8 0, .int .u16 0, .slice none 0 0, .slice none 0 0] 45)).setRow w14.heap.size (patC p.1 A p.2.1.length c A' p.2.2.length c').toArray) = w15 at *
    generalize w14.heap.size = go at *
    have hgo : Hid (go < w15.heap.size) := K15.out.lt
    have hg1o : Hid (g1 < w15.heap.size) := K1.out.lt
    have y3 : w15.cell? ⟨g1, 3, none⟩ = some (.slice A' p.2.2.length c') := K1.out.cell 3
    have O15 : Hid ((w15.alloc (.cells #[] 60)).ownsRow w15.heap.size 60 8 (.slice (some ⟨w15.heap.size, 0, none⟩) 0 0) 0 []) :=
      ⟨rfl, .inr ⟨w15.heap.size, 0, #[], rfl, Nat.le_refl _, heap_alloc_new w15 _, Nat.le_refl _, by unfold maxLen; omega, rfl, rfl⟩⟩
    have M15 : Hid (Below w15.heap.size w15 (w15.alloc (.cells #[] 60))) := below_new _ _
    obtain ⟨⟨Ax, cx, Ay, cy, ex, hPx, hOx⟩, hm1, hm2⟩ := PA.out
    obtain ⟨rfl, rfl, rfl, rfl⟩ : A = Ax ∧ c = cx ∧ A' = Ay ∧ c' = cy := by
      unfold patC at ex
      simp only [List.cons.injEq, Value.slice.injEq, true_and, and_true] at ex
      exact ⟨ex.1.1, ex.1.2, ex.2.1, ex.2.2⟩
    have OX := Lib.hid (hOx.ext M15.out)
    have hone : Hid (∀ u ∈ p.2.2.flatMap encO, u.oneCell' = true) := fun u hu => by
      obtain ⟨o, _, ho⟩ := List.mem_flatMap.1 hu
      exact encO_one o u ho
    have z3 : (w15.alloc (.cells #[] 60)).cell? ⟨g1, 3, none⟩ = some (.slice A' p.2.2.length c') := (K1.out.alloc _).cell 3
    clear ex hPx hOx hm1 hm2
    go_upto_region 10 with (first
      | (refine wpList_lits opSl [] rfl (by decide) (by simp) (by simp) (by rfl) ?_)
      | (refine wpList_cat opSl O15.out OX.out.sl hone.out (by simp) (by have := HQ.out.2; omega) (by have := HQ.out.2; unfold maxLen; omega) (by rfl) (by rfl) ?_; intro v9 w9 own9 bel9; simp only [Nat.zero_add, List.nil_append] at own9; obtain ⟨A9, c9, rfl, _, _⟩ := Sl.of_own own9; have own9 := Lib.hid own9; have M9 : Hid (Below w15.heap.size w15 w9) := M15.out.trans bel9; have K9 := Lib.hid (K15.out.ext M9.out); have x3 : w9.cell? ⟨go, 3, none⟩ = some (.slice A' p.2.2.length c') := K9.out.cell 3; have f3 : w9.frozen? ⟨go, 3, none⟩ = false := K9.out.fr 3; clear bel9))
    have K1 := Lib.hid ((K1.out.ext M9.out).far (p := ⟨go, 3, none⟩) (fun e => absurd (show g1 = go from e) (Nat.ne_of_lt hg1go.out)) (.slice A9 p.2.2.length c9))
    have K10 : Hid (Blk (w9.setCell ⟨go, 3, none⟩ (.slice A9 p.2.2.length c9)) go 45 (patC p.1 A p.2.1.length c A9 p.2.2.length c9).toArray) := by
      have := K9.out.set_ 3 (.slice A9 p.2.2.length c9)
      rw [Hid]
      simpa [patC] using this
    have own10 := Lib.hid (own_keepF (w' := w9.setCell ⟨go, 3, none⟩ (.slice A9 p.2.2.length c9)) own9.out fun k e => Below.heap_setCell w9 ⟨go, 3, none⟩ _ k (by have := (own9.out.lt k e).1; have := hgo.out; rintro rfl; omega))
    have HP10 := Lib.hid ((HP.out.ext M9.out).setCell (b := go) (fun e => absurd (hg15.out go e) (Nat.lt_irrefl _)) 3 (.slice A9 p.2.2.length c9))
    have B10 : Hid (Below w.heap.size w (w9.setCell ⟨go, 3, none⟩ (.slice A9 p.2.2.length c9))) := (B15.out.trans (M9.out.mono B15.out.size)).setCell hgw.out _
    have h159 := M9.out.size
    clear x3 f3 y3 z3 HP B15 M9 K9 own9 O15 M15 OX hone K15
    generalize (w9.setCell ⟨go, 3, none⟩ (.slice A9 p.2.2.length c9)) = w10 at *
    have PO : Hid (PatAt w10 (patC p.1 A p.2.1.length c A9 p.2.2.length c9) p) := by
      have PA := PA0.out.ext B10.out
      obtain ⟨⟨Ax, cx, Ay, cy, ex, hPx, hOx⟩, hm1, hm2⟩ := PA
      obtain ⟨rfl, rfl⟩ : A = Ax ∧ c = cx := by
        unfold patC at ex
        simp only [List.cons.injEq, Value.slice.injEq, true_and, and_true] at ex
        exact ⟨ex.1.1, ex.1.2⟩
      obtain ⟨A8, c8, e8, _, s8⟩ := Sl.of_own own10.out
      injection e8 with e8 _ _
      subst e8
      exact ⟨⟨A, c, A9, c9, rfl, hPx, ⟨rfl, s8, hOx.ok⟩⟩, hm1, hm2⟩
    have HU := Lib.hid (putPl_any HP10.out (by decide) p _ PO.out ⟨by have := HQ.out.1; omega, by have := HQ.out.2; omega⟩)
    go_wp2_with (refine wpList_load_row rfl 45 _ (by rfl) go (by rfl) _ _ _ _ K10.out underPat rfl infoPat ?_)
    refine HU.out.mono ?_
    rintro e w11 ⟨rfl, kp, F2, hp2, hF2⟩
    obtain ⟨L, er, hL1, hL2, hcase⟩ : ∃ (L : List PatV) (er : Nat), polL 3 [] p = L ∧ polE 3 [] p = er ∧ ((er = 0 ∧ L = [p]) ∨ (er = 1 ∧ L = [])) := ⟨_, _, rfl, rfl, (pol3 p).elim (fun h => .inl ⟨h.2.1, h.2.2⟩) .inr⟩
    rw [hL1] at hp2
    rw [hL2]
    have HP := Lib.hid hp2
    have hcase := Lib.hid hcase
    have K11 := Lib.hid (kp.blk K10.out (fun e => absurd (hg15.out go e) (Nat.lt_irrefl _)))
    have K1 := Lib.hid (kp.blk K1.out hFg1.out)
    have own11 := Lib.hid (own_keepF (w' := w11) own10.out fun k e => kp.block k (own10.out.lt k e).2 (fun e2 => by have := hg15.out k e2; have := (own10.out.lt k e).1; have := hgo.out; omega))
    have B11 := Lib.hid (B10.out.trans (kp.below (fun k e => (hF14.out k e).1) B10.out.size))
    have hF2' : Hid (∀ k, F2 k → k < go ∨ w10.heap.size ≤ k) := fun k e => (hF2 k e).imp (hg15.out k) id
    have OPS : Hid (0 < p.2.2.length → ∃ b o, A9 = some ⟨b, o, none⟩ ∧ w15.heap.size ≤ b ∧ b < w10.heap.size ∧ b < w11.heap.size ∧ NFr w11 b ∧ NumsAt w11 .u8 b (fun j => o + j * 8) p.2.2.length) := fun hp => by
      obtain ⟨b, e1, e2, e3, e4, e5⟩ := own_nums own11.out rfl hp
      exact ⟨b, 0, e1, e2, (own10.out.lt b (by rw [e1]; rfl)).2, e3, e4, e5⟩
    clear kp hp2 hF2 HU HP10 K10 own10 own11 B10 PO hL1 hL2
    have t3 : w11.cell? ⟨go, 3, none⟩ = some (.slice A9 p.2.2.length c9) := K11.out.cell 3
    have hN := HQ.out.2
    generalize p.2.2.length = n at *
    have hm1 : (n : Int) ≤ 9223372036854775807 := by omega
    go_wp2_with fail
    clear t3
    go_loopw [78] (fun i wr => ∃ m : Nat, m ≤ n ∧ i = .int .i64 m ∧ Hid (PoolAt wr F2 g 3 L) ∧ Hid (Blk wr go 45 (patC p.1 A p.2.1.length c A9 n c9).toArray) ∧ Hid (Blk wr g1 45 (patC p.1 A p.2.1.length c A' n c').toArray) ∧ Hid (0 < n → ∃ b o, A9 = some ⟨b, o, none⟩ ∧ w15.heap.size ≤ b ∧ b < w10.heap.size ∧ b < wr.heap.size ∧ NFr wr b ∧ NumsAt wr .u8 b (fun j => o + j * 8) n) ∧ Hid (Below w.heap.size w wr)) (fun i _ => n - (intOf i).toNat)
    case atStart => exact ⟨0, by omega, rfl, HP.out, K11.out, K1.out, OPS.out, B11.out⟩
    case round =>
      clear HP K11 K1 OPS B11
      obtain ⟨m, hmn, rfl, HP, KG, K1, OPS, B⟩ := hrel
      have hm0 : (0 : Int) ≤ (m : Int) := by omega
      by_cases hmlt : m < n
      · have hmlk : (m : Int) < (n : Int) := by omega
        have t3 : wr.cell? ⟨go, 3, none⟩ = some (.slice A9 n c9) := KG.out.cell 3
        obtain ⟨b', o', rfl, hB', hbl', hbw', nf, nums⟩ := OPS.out (by omega)
        obtain ⟨z, hz, hc⟩ := nums m hmlt
        obtain ⟨z0, z1⟩ := u8_of hz
        have f0 : wr.frozen? ⟨b', o' + m * 8, none⟩ = false := nf.fr _
        have hz' : (Lit.int .u8 ((z + 1) % 256)).wf = true := by simp [Lit.wf, IntKind.min, IntKind.max, IntKind.signed, IntKind.bits]; omega
        have hbgo : Hid (go < b') := Nat.lt_of_lt_of_le hgo.out hB'
        have hbF : Hid (¬ F2 b') := fun e => by have := hF2'.out b' e; have := hbgo.out; omega
        have HP2 := Lib.hid (HP.out.setCell hbF.out (o' + m * 8) (.int .u8 ((z + 1) % 256)))
        have KG2 := Lib.hid (KG.out.far (p := ⟨b', o' + m * 8, none⟩) (fun e => absurd (show go = b' from e) (Nat.ne_of_lt hbgo.out)) (.int .u8 ((z + 1) % 256)))
        have K12 := Lib.hid (K1.out.far (p := ⟨b', o' + m * 8, none⟩) (fun e => absurd (show g1 = b' from e) (Nat.ne_of_lt (Nat.lt_trans hg1go.out hbgo.out))) (.int .u8 ((z + 1) % 256)))
        have OPS2 : Hid (0 < n → ∃ b2 o2, some (⟨b', o', none⟩ : Addr) = some ⟨b2, o2, none⟩ ∧ w15.heap.size ≤ b2 ∧ b2 < w10.heap.size ∧ b2 < (wr.setCell ⟨b', o' + m * 8, none⟩ (.int .u8 ((z + 1) % 256))).heap.size ∧ NFr (wr.setCell ⟨b', o' + m * 8, none⟩ (.int .u8 ((z + 1) % 256))) b2 ∧ NumsAt (wr.setCell ⟨b', o' + m * 8, none⟩ (.int .u8 ((z + 1) % 256))) .u8 b2 (fun j => o2 + j * 8) n) :=
          fun _ => ⟨b', o', rfl, hB', hbl', by simpa [World.setCell] using hbw', nf.set _ rfl _, nums.set nf hz'⟩
        have B2 : Hid (Below w.heap.size w (wr.setCell ⟨b', o' + m * 8, none⟩ (.int .u8 ((z + 1) % 256)))) := B.out.setCell (Nat.le_trans (Nat.le_trans hgw.out (Nat.le_of_lt hgo.out)) hB') _
        clear HP KG K1 OPS B nf nums hz hz'
        go_wp2_with fail
        go_roundw
        case rel => exact ⟨m + 1, by omega, by go_num, HP2.out, KG2.out, K12.out, OPS2.out, B2.out⟩
        case measure => simp [intOf]; omega
      · have hmlk : ¬ ((m : Int) < (n : Int)) := by omega
        clear KG OPS hm1
        generalize wr = wl at *
        have HA := Lib.hid (allPlN_any HP.out)
        go_wp2_with fail
        refine HA.out.mono ?_
        rintro e w12 ⟨s, rfl, O, b12⟩
        obtain ⟨A6, c6, rfl, _⟩ := O.slice
        have AC := Lib.hid O.allc
        have BL := Lib.hid b12
        have hLn : L.length ≤ 1 := by
          rcases hcase.out with ⟨_, e⟩ | ⟨_, e⟩ <;> (rw [e]; simp)
        have hm1 : (L.length : Int) ≤ 9223372036854775807 := by omega
        clear O b12 HA
        go_wp2_with fail
        go_loopw [95] (fun i wr => ∃ k : Nat, k ≤ L.length ∧ i = .int .i64 k ∧ Hid (AllC wl.heap.size wr (.slice A6 L.length c6) L.length) ∧ Hid (Below wl.heap.size wl wr)) (fun i _ => L.length - (intOf i).toNat)
        case atStart => exact ⟨0, by omega, rfl, AC.out, BL.out⟩
        case round =>
          clear AC BL
          obtain ⟨k, hk, rfl, AC, BL⟩ := hrel
          have hk0 : (0 : Int) ≤ (k : Int) := by omega
          by_cases hlt : k < L.length
          · have hlk : (k : Int) < (L.length : Int) := by omega
            obtain ⟨b, d, A4, n4, c4, A5, n5, c5, rfl, hb, R, hn5, ops⟩ := AC.out.at_ hlt
            have R := Lib.hid R
            have OPS := Lib.hid ops
            unfold maxLen at hn5
            have t3 : wr.cell? ⟨b, k * 4 + 3, none⟩ = some (.slice A5 n5 c5) := R.out 3 _ rfl
            clear ops
            go_wp2_with fail
            clear t3
            go_loopw [104] (fun j wq => ∃ m : Nat, m ≤ n5 ∧ j = .int .i64 m ∧ Hid (AllC wl.heap.size wq (.slice (some ⟨b, 0, none⟩) L.length c6) L.length) ∧ Hid (wq.rangeAt b (k * 4) (patC d A4 n4 c4 A5 n5 c5)) ∧ Hid (0 < n5 → ∃ b' o', A5 = some ⟨b', o', none⟩ ∧ wl.heap.size ≤ b' ∧ b' < wq.heap.size ∧ b' ≠ b ∧ NFr wq b' ∧ CellsAt wq b' o' (n5 * 8)) ∧ Hid (Below wl.heap.size wl wq)) (fun j _ => n5 - (intOf j).toNat)
            case atStart => exact ⟨0, by omega, rfl, AC.out, R.out, OPS.out, BL.out⟩
            case round =>
              clear AC BL R OPS
              obtain ⟨m, hmn, rfl, AC, R, OPS, BL⟩ := hrel
              have hm0 : (0 : Int) ≤ (m : Int) := by omega
              have t3 : wr.cell? ⟨b, k * 4 + 3, none⟩ = some (.slice A5 n5 c5) := R.out 3 _ rfl
              by_cases hmlt : m < n5
              · have hmlk : (m : Int) < (n5 : Int) := by omega
                obtain ⟨b', o', rfl, hB', hbl', hne', nf, cells⟩ := OPS.out (by omega)
                obtain ⟨z, hc⟩ := cells (m * 8 + 7) (by omega)
                rw [← Nat.add_assoc] at hc
                have f0 : wr.frozen? ⟨b', o' + m * 8 + 7, none⟩ = false := nf.fr _
                have AC2 := Lib.hid (AC.out.set (o := o' + m * 8 + 7) hne' nf (.string ⟨#[63]⟩))
                have R2 : Hid ((wr.setCell ⟨b', o' + m * 8 + 7, none⟩ (.string ⟨#[63]⟩)).rangeAt b (k * 4) (patC d A4 n4 c4 (some ⟨b', o', none⟩) n5 c5)) := rangeAt_keep R.out fun j => World.cell?_of_block (a := ⟨b, j, none⟩) (Below.heap_setCell wr ⟨b', o' + m * 8 + 7, none⟩ _ b (fun e => hne' e.symm))
                have OPS2 : Hid (0 < n5 → ∃ b2 o2, some (⟨b', o', none⟩ : Addr) = some ⟨b2, o2, none⟩ ∧ wl.heap.size ≤ b2 ∧ b2 < (wr.setCell ⟨b', o' + m * 8 + 7, none⟩ (.string ⟨#[63]⟩)).heap.size ∧ b2 ≠ b ∧ NFr (wr.setCell ⟨b', o' + m * 8 + 7, none⟩ (.string ⟨#[63]⟩)) b2 ∧ CellsAt (wr.setCell ⟨b', o' + m * 8 + 7, none⟩ (.string ⟨#[63]⟩)) b2 o2 (n5 * 8)) :=
                  fun _ => ⟨b', o', rfl, hB', by simpa [World.setCell] using hbl', hne', nf.set _ rfl _, cells.set nf _⟩
                have B2 : Hid (Below wl.heap.size wl (wr.setCell ⟨b', o' + m * 8 + 7, none⟩ (.string ⟨#[63]⟩))) := BL.out.setCell hB' _
                clear AC R OPS BL nf cells
                go_wp2_with fail
                go_roundw
                case rel => exact ⟨m + 1, by omega, by go_num, AC2.out, R2.out, OPS2.out, B2.out⟩
                case measure => simp [intOf]; omega
              · have hmlk : ¬ ((m : Int) < (n5 : Int)) := by omega
                clear OPS t3 R
                go_wp2_with fail
                go_roundw
                case rel => exact ⟨k + 1, by omega, by go_num, AC.out, BL.out⟩
                case measure => simp [intOf]; omega
          · have hlk : ¬ ((k : Int) < (L.length : Int)) := by omega
            have HP := Lib.hid (HP.out.ext BL.out)
            have K1 := Lib.hid (K1.out.ext BL.out)
            have B := Lib.hid (B.out.trans (BL.out.mono B.out.size))
            clear AC BL
            generalize wr = w20 at *
            go_upto_region 26 with fail
            have PA := Lib.hid (PA0.out.ext B.out)
            rcases hcase.out with ⟨e1, e2⟩ | ⟨e1, e2⟩
            · subst e1 e2
              have hcA : ∀ args u, (callFunc 51 args).run Try.prog u = .ok (.enter 51 args) u := enters_of Try.func51 (by kernel_rfl) rfl
              have hcP : ∀ args u, (callFunc 14 args).run Try.prog u = .ok (.enter 14 args) u := enters_of Try.func14 (by kernel_rfl) rfl
              have HAL := Lib.hid (fun (u : World) (hu : Below w20.heap.size w20 u) => allPl_any (HP.out.ext hu))
              have RW := Lib.hid (blk_pat K1.out)
              have g1l : Hid (g1 < w20.heap.size) := K1.out.lt
              refine wp_region_held (S := fun w' => Below w20.heap.size w20 w') mixedS ?_
              change wpAnyH _ _ _ _ _ _ _ _ w20.drew
              have B21 : Hid (Below w20.heap.size w20 w20.drew) := (Below.refl _ _).drew
              have PA1 := Lib.hid (PA.out.ext B21.out)
              generalize w20.drew = w21 at B21 PA1 ⊢
              simp only [List.size_toArray, List.length_cons, List.length_nil]
              refine takeV (i := 0) (d := 117) (v := .int .i64 ((0 : Nat) : Int)) rfl (by kernel_rfl) (by kernel_rfl) (by kernel_rfl) (fun _ _ _ h => h) rfl (fun _ _ => exMove (v := .int .i64 ((0 : Nat) : Int)) rfl) B21.out ?_
              simp only [Act.put, List.setIfInBounds_toArray, List.set_cons_zero, List.set_cons_succ]
              refine takeV (i := 1) (d := 118) (v := .bool true) rfl (by kernel_rfl) (by kernel_rfl) (by kernel_rfl) (fun _ _ _ h => h) rfl (fun w' _ => exBin rfl rfl (by rfl) (by kernel_rfl)) B21.out ?_
              simp only [Act.put, List.setIfInBounds_toArray, List.set_cons_zero, List.set_cons_succ]
              refine takeV (i := 2) (d := 119) (v := .bool true) rfl (by kernel_rfl) (by kernel_rfl) (by kernel_rfl) (fun _ _ _ h => h) rfl (fun _ _ => exMove (v := .bool true) rfl) B21.out ?_
              simp only [Act.put, List.setIfInBounds_toArray, List.set_cons_zero, List.set_cons_succ]
              refine takeV (i := 3) (d := 120) (v := .pointer (some ⟨g, 0, none⟩)) rfl (by kernel_rfl) (by kernel_rfl) (by kernel_rfl) (fun _ _ _ h => h) rfl (fun _ _ => exMove (v := .pointer (some ⟨g, 0, none⟩)) rfl) B21.out ?_
              simp only [Act.put, List.setIfInBounds_toArray, List.set_cons_zero, List.set_cons_succ]
              refine takeV (i := 5) (d := 122) (v := .agg (patC p.1 A p.2.1.length c A' n c').toArray) rfl (by kernel_rfl) (by kernel_rfl) (by kernel_rfl) (fun _ _ _ h => h) rfl (fun w' h => exMid rfl (rangeAt_below RW.out h g1l.out) underPat rfl infoPat) B21.out ?_
              simp only [Act.put, List.setIfInBounds_toArray, List.set_cons_zero, List.set_cons_succ]
              refine wpAnyH_all (rs := [4, 6]) (by kernel_rfl) (by simp) ?_
              intro i hi
              simp only [List.mem_cons, List.not_mem_nil, or_false] at hi
              rcases hi with rfl | rfl
              · refine wpOp_of rfl rfl (wp_called (args := #[.pointer (some ⟨g, 0, none⟩)]) hcA (by simp only [List.map_toArray, List.map_cons, List.map_nil]; rfl) (HAL.out w21 B21.out) ?_)
                rintro e wa ⟨s1, rfl, OA, ba⟩
                obtain ⟨A1, c1, rfl, _⟩ := OA.slice
                have PS1 := Lib.hid OA.pats.at_
                refine ⟨_, rfl, ext_trans B21.out ba, ?_⟩
                simp only [Act.put, List.setIfInBounds_toArray, List.set_cons_zero, List.set_cons_succ]
                have B_1 := Lib.hid (ext_trans B21.out ba)
                have F_2 := Lib.hid (PA1.out.ext ba)
                clear B21 PA1
                clear OA ba
                refine wpAnyH_all (rs := [6]) (by kernel_rfl) (by simp) ?_
                intro i hi
                simp only [List.mem_cons, List.not_mem_nil, or_false] at hi
                subst hi
                have PS2 := Lib.hid (pats_one F_2.out)
                have hb2 : Below wa.heap.size wa (wa.alloc (.cells (patC p.1 A p.2.1.length c A' n c').toArray 45)) := below_new _ _
                refine wpOp_of rfl rfl (wp_lit1 patSl (cs := patC p.1 A p.2.1.length c A' n c') rfl (by omega) rfl ?_)
                refine ⟨ext_trans B_1.out hb2, ?_⟩
                simp only [Act.put, List.setIfInBounds_toArray, List.set_cons_zero, List.set_cons_succ]
                generalize (wa.alloc (.cells (patC p.1 A p.2.1.length c A' n c').toArray 45)) = w_3 at *
                have B_5 := Lib.hid (ext_trans B_1.out hb2)
                have F_6 := Lib.hid (F_2.out.ext hb2)
                have F_7 := Lib.hid (PS1.out.ext hb2)
                clear B_1 F_2 PS1
                clear hb2
                generalize wa.heap.size = g_4 at *
                refine wpAnyH_all (rs := [7]) (by kernel_rfl) (by simp) ?_
                intro i hi
                simp only [List.mem_cons, List.not_mem_nil, or_false] at hi
                subst hi
                refine wpOp_of rfl rfl (wp_called (args := #[.slice A1 [p].length c1, .slice (some ⟨g_4, 0, none⟩) 1 1]) hcP (by simp only [List.map_toArray, List.map_cons, List.map_nil]; rfl) (patches30_same [p] w_3 _ _ _ _ _ F_7.out PS2.out (by simp [maxLen])) ?_)
                rintro e w_8 ⟨rfl, h_9⟩
                refine ⟨_, rfl, ext_trans B_5.out h_9, ?_⟩
                simp only [Act.put, List.setIfInBounds_toArray, List.set_cons_zero, List.set_cons_succ]
                have B_10 := Lib.hid (ext_trans B_5.out h_9)
                have F_11 := Lib.hid (F_6.out.ext h_9)
                have F_12 := Lib.hid (F_7.out.ext h_9)
                have F_13 := Lib.hid (PS2.out.ext h_9)
                clear B_5 F_6 F_7 PS2
                clear h_9
                refine takeV (i := 8) (d := 125) (v := .bool false) rfl (by kernel_rfl) (by kernel_rfl) (by kernel_rfl) (fun _ _ _ h => h) rfl (fun w' _ => exBin rfl rfl (by rfl) (by kernel_rfl)) B_10.out ?_
                simp only [Act.put, List.setIfInBounds_toArray, List.set_cons_zero, List.set_cons_succ]
                refine takeV (i := 9) (d := 126) (v := .bool false) rfl (by kernel_rfl) (by kernel_rfl) (by kernel_rfl) (fun _ _ _ h => h) rfl (fun _ _ => exPickT (v := .bool false) rfl rfl) B_10.out ?_
                simp only [Act.put, List.setIfInBounds_toArray, List.set_cons_zero, List.set_cons_succ]
                refine wpAnyH_done (by kernel_rfl) ?_ _
                have B22 := Lib.hid (B.out.trans (B_10.out.mono B.out.size))
                go_wp2_with fail
                refine (newPl_any room _).mono ?_
                rintro e w23 ⟨g', rfl, hp', b23⟩
                have HP3 := Lib.hid hp'
                have B23 := Lib.hid (B22.out.trans (b23.mono B22.out.size))
                clear hp' b23
                go_wp2_with fail
                refine (roomPl_any HP3.out).mono ?_
                rintro e w24 ⟨rfl, b24⟩
                have B24 := Lib.hid (B23.out.trans (b24.mono B23.out.size))
                unfold roomV
                clear b24
                go_wp2_with fail
                refine (works32 _).mono ?_
                rintro e w25 ⟨rfl, b25⟩
                have B25 := Lib.hid (B24.out.trans (b25.mono B24.out.size))
                clear b25
                go_wp2
                go_ret
                exact ⟨rfl, B25.out⟩
              · have PS2 := Lib.hid (pats_one PA1.out)
                have hb2 : Below w21.heap.size w21 (w21.alloc (.cells (patC p.1 A p.2.1.length c A' n c').toArray 45)) := below_new _ _
                refine wpOp_of rfl rfl (wp_lit1 patSl (cs := patC p.1 A p.2.1.length c A' n c') rfl (by omega) rfl ?_)
                refine ⟨ext_trans B21.out hb2, ?_⟩
                simp only [Act.put, List.setIfInBounds_toArray, List.set_cons_zero, List.set_cons_succ]
                generalize (w21.alloc (.cells (patC p.1 A p.2.1.length c A' n c').toArray 45)) = w_14 at *
                have B_16 := Lib.hid (ext_trans B21.out hb2)
                have F_17 := Lib.hid (PA1.out.ext hb2)
                clear B21 PA1
                clear hb2
                generalize w21.heap.size = g_15 at *
                refine wpAnyH_all (rs := [4]) (by kernel_rfl) (by simp) ?_
                intro i hi
                simp only [List.mem_cons, List.not_mem_nil, or_false] at hi
                subst hi
                refine wpOp_of rfl rfl (wp_called (args := #[.pointer (some ⟨g, 0, none⟩)]) hcA (by simp only [List.map_toArray, List.map_cons, List.map_nil]; rfl) (HAL.out w_14 B_16.out) ?_)
                rintro e wa ⟨s1, rfl, OA, ba⟩
                obtain ⟨A1, c1, rfl, _⟩ := OA.slice
                have PS1 := Lib.hid OA.pats.at_
                refine ⟨_, rfl, ext_trans B_16.out ba, ?_⟩
                simp only [Act.put, List.setIfInBounds_toArray, List.set_cons_zero, List.set_cons_succ]
                have B_18 := Lib.hid (ext_trans B_16.out ba)
                have F_19 := Lib.hid (F_17.out.ext ba)
                have F_20 := Lib.hid (PS2.out.ext ba)
                clear B_16 F_17 PS2
                clear OA ba
                refine wpAnyH_all (rs := [7]) (by kernel_rfl) (by simp) ?_
                intro i hi
                simp only [List.mem_cons, List.not_mem_nil, or_false] at hi
                subst hi
                refine wpOp_of rfl rfl (wp_called (args := #[.slice A1 [p].length c1, .slice (some ⟨g_15, 0, none⟩) 1 1]) hcP (by simp only [List.map_toArray, List.map_cons, List.map_nil]; rfl) (patches30_same [p] wa _ _ _ _ _ PS1.out F_20.out (by simp [maxLen])) ?_)
                rintro e w_21 ⟨rfl, h_22⟩
                refine ⟨_, rfl, ext_trans B_18.out h_22, ?_⟩
                simp only [Act.put, List.setIfInBounds_toArray, List.set_cons_zero, List.set_cons_succ]
                have B_23 := Lib.hid (ext_trans B_18.out h_22)
                have F_24 := Lib.hid (F_19.out.ext h_22)
                have F_25 := Lib.hid (F_20.out.ext h_22)
                have F_26 := Lib.hid (PS1.out.ext h_22)
                clear B_18 F_19 F_20 PS1
                clear h_22
                refine takeV (i := 8) (d := 125) (v := .bool false) rfl (by kernel_rfl) (by kernel_rfl) (by kernel_rfl) (fun _ _ _ h => h) rfl (fun w' _ => exBin rfl rfl (by rfl) (by kernel_rfl)) B_23.out ?_
                simp only [Act.put, List.setIfInBounds_toArray, List.set_cons_zero, List.set_cons_succ]
                refine takeV (i := 9) (d := 126) (v := .bool false) rfl (by kernel_rfl) (by kernel_rfl) (by kernel_rfl) (fun _ _ _ h => h) rfl (fun _ _ => exPickT (v := .bool false) rfl rfl) B_23.out ?_
                simp only [Act.put, List.setIfInBounds_toArray, List.set_cons_zero, List.set_cons_succ]
                refine wpAnyH_done (by kernel_rfl) ?_ _
                have B22 := Lib.hid (B.out.trans (B_23.out.mono B.out.size))
                go_wp2_with fail
                refine (newPl_any room _).mono ?_
                rintro e w23 ⟨g', rfl, hp', b23⟩
                have HP3 := Lib.hid hp'
                have B23 := Lib.hid (B22.out.trans (b23.mono B22.out.size))
                clear hp' b23
                go_wp2_with fail
                refine (roomPl_any HP3.out).mono ?_
                rintro e w24 ⟨rfl, b24⟩
                have B24 := Lib.hid (B23.out.trans (b24.mono B23.out.size))
                unfold roomV
                clear b24
                go_wp2_with fail
                refine (works32 _).mono ?_
                rintro e w25 ⟨rfl, b25⟩
                have B25 := Lib.hid (B24.out.trans (b25.mono B24.out.size))
                clear b25
                go_wp2
                go_ret
                exact ⟨rfl, B25.out⟩
            · subst e1 e2
              refine wp_region_ext mixedS (by kernel_rfl) ?_
              repeat (first
                | go_big_quiet_skip
                | go_big_quiet_step (fail))
              refine wpQuiet_nil ?_
              rintro _ ⟨z, rfl⟩
              have B22 := Lib.hid (B.out.trans (z.h.mono B.out.size))
              generalize z.w = w22 at *
              go_wp2_with fail
              refine (newPl_any room _).mono ?_
              rintro e w23 ⟨g', rfl, hp', b23⟩
              have HP3 := Lib.hid hp'
              have B23 := Lib.hid (B22.out.trans (b23.mono B22.out.size))
              clear hp' b23
              go_wp2_with fail
              refine (roomPl_any HP3.out).mono ?_
              rintro e w24 ⟨rfl, b24⟩
              have B24 := Lib.hid (B23.out.trans (b24.mono B23.out.size))
              unfold roomV
              clear b24
              go_wp2_with fail
              refine (works32 _).mono ?_
              rintro e w25 ⟨rfl, b25⟩
              have B25 := Lib.hid (B24.out.trans (b25.mono B24.out.size))
              clear b25
              go_wp2
              go_ret
              exact ⟨rfl, B25.out⟩
end Go.Proofs.Ytnhbbggpgieipaa
