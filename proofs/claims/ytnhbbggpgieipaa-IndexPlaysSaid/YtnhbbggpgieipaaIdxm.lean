/- Whatever patches are put, each error, and what there is: walked. -/
import Derived.Test.YtnhbbggpgieipaaIdxp
namespace Go.Proofs.Ytnhbbggpgieipaa
open Go.RowKit

set_option maxRecDepth 100000 in
set_option maxHeartbeats 8000000 in
theorem indexPlays_walk (w : World) (l : List PatV) (A : Option Addr) (n c : Nat) (hm : n ≤ maxLen) (h : PatsAt w A n l) :
    Calls Try.prog 5 #[.slice A n c] w (RetB w (.bool true)) := by
  have H0 := Lib.hid h
  clear h
  go_enter Try.func5, Try.ntmps5
  have HF := Lib.hid (few20_any l w A n c 20 H0.out hm)
  cases hf : fewsB l 20
  · rw [fewsN_false hf] at HF
    go_wp2_with fail
    refine HF.out.mono ?_
    rintro e w3 ⟨rfl, b3⟩
    have B3 := Lib.hid b3
    clear b3 HF
    go_wp2_with fail
    refine (works31 _).mono ?_
    rintro e w4 ⟨rfl, b4⟩
    have B4 := Lib.hid (B3.out.trans (b4.mono B3.out.size))
    clear b4
    go_wp2
    go_ret
    exact ⟨rfl, B4.out⟩
  · rw [fewsN_true hf] at HF
    have HQ := Lib.hid (fews_at hf)
    have hn20 : n ≤ 100 := by have h1 := HQ.out.1; have h2 := H0.out.len; omega
    go_wp2_with fail
    refine HF.out.mono ?_
    rintro e w3 ⟨rfl, b3⟩
    have B3 := Lib.hid b3
    clear b3 HF hf
    go_wp2_with fail
    refine (new31_any _).mono ?_
    rintro e w4 ⟨g, rfl, hI, b4⟩
    have B4 := Lib.hid (B3.out.trans (b4.mono B3.out.size))
    have X0 : Hid (∃ F G A' c', Value.slice none 0 0 = .slice A' (madeL (l.take 0)).length c' ∧ IdxAt w4 F g (madeL (l.take 0)) ∧ PatsIn w4 G A' (madeL (l.take 0)).length (madeL (l.take 0)) ∧ (∀ q, F q → w.heap.size ≤ q) ∧ ∀ q, G q → q < w4.heap.size ∧ ¬ F q) := by
      rw [List.take_zero]
      exact ⟨_, fun _ => False, none, 0, rfl, hI, ⟨rfl, fun h => absurd h (by decide), [], RowsIn.nil _ _, rfl, fun h => absurd h (by decide)⟩, fun q e => Nat.le_trans B3.out.size e.1, fun _ h => False.elim h⟩
    clear hI b4
    go_wp2_with fail
    go_loopw [5, 4] (fun i s wr => ∃ k : Nat, k ≤ n ∧ i = .int .i64 k ∧ Hid (∃ F G A' c', s = .slice A' (madeL (l.take k)).length c' ∧ IdxAt wr F g (madeL (l.take k)) ∧ PatsIn wr G A' (madeL (l.take k)).length (madeL (l.take k)) ∧ (∀ q, F q → w.heap.size ≤ q) ∧ ∀ q, G q → q < wr.heap.size ∧ ¬ F q) ∧ Hid (Below w.heap.size w wr)) (fun i _ _ => n - (intOf i).toNat)
    case atStart => exact ⟨0, by omega, rfl, X0.out, B4.out⟩
    case round =>
      clear X0 B4
      obtain ⟨k, hk, rfl, X, B⟩ := hrel
      obtain ⟨F, G, A', c', rfl, hI, hP, hF, hG⟩ := X.out
      have HI := Lib.hid hI
      have HP := Lib.hid hP
      have hF := Lib.hid hF
      have hG := Lib.hid hG
      clear hI hP X
      have hk0 : (0 : Int) ≤ (k : Int) := by omega
      by_cases hlt : k < n
      · have hlk : (k : Int) < (n : Int) := by omega
        obtain ⟨b, o, p, r, rfl, hb, hp, pa, R⟩ := H0.out.at_ hlt
        have PA := Lib.hid pa
        have R0 := Lib.hid R
        have hb := Lib.hid hb
        have hq := Lib.hid (HQ.out.2 p (List.mem_of_getElem? hp))
        have hl : Hid ((madeL (l.take k)).length ≤ 100) := Nat.le_trans (madeL_len _) (by rw [List.length_take]; omega)
        have N := Lib.hid (madeL_snoc hp)
        obtain ⟨⟨A1, c1, A2, c2, rfl, _, _⟩, _, _⟩ := PA.out
        clear pa R hp
        generalize madeL (l.take k) = L at *
        have R := Lib.hid (rangeAt_below R0.out B.out hb.out)
        have PG : Hid (PatIn wr (fun q => G q ∨ q < w.heap.size) (patC p.1 A1 p.2.1.length c1 A2 p.2.2.length c2) p) := (PA.out.in_.stay (w' := wr) ⟨B.out.size, fun q _ hq => B.out.block q hq⟩).mono fun q e => .inr e
        have HR := Lib.hid (rput31_any L HI.out.ok p wr (fun q => G q ∨ q < w.heap.size) (fun q e => e.elim (fun e => (hG.out q e).1) (fun e => Nat.lt_of_lt_of_le e B.out.size)) A' c' (HP.out.mono fun q e => .inl e) _ PG.out (by have := hl.out; omega))
        go_wp2_with (refine wpList_load_mid rfl 45 _ (by rfl) b (o + k * 4) (by rfl) _ _ R.out underPat rfl infoPat ?_)
        refine HR.out.mono ?_
        rintro e w5 ⟨A5, c5, rfl, hP5, b5⟩
        have P5 := Lib.hid hP5
        have HI5 := Lib.hid (HI.out.ext b5)
        have B5 := Lib.hid (B.out.trans (b5.mono B.out.size))
        have hr5 := Lib.hid b5.size
        have hFl := Lib.hid HI.out.lt
        clear hP5 b5 HR PG R HI HP
        have R := Lib.hid (rangeAt_below R0.out B5.out hb.out)
        have HU := Lib.hid (put31_any HI5.out (by have := hl.out; omega) p _ (PA.out.ext B5.out) ⟨by have := hq.out.1; omega, by have := hq.out.2; omega⟩)
        have hl1 : Hid ((idxL L p).length ≤ 1000) := by have := idxL_len L p; have := hl.out; rw [Hid]; omega
        have hne : (((idxE L p : Nat) : Int) != ((idxE L p : Nat) : Int)) = false := by simp
        go_wp2_with (refine wpList_load_mid rfl 45 _ (by rfl) b (o + k * 4) (by rfl) _ _ R.out underPat rfl infoPat ?_)
        refine HU.out.mono ?_
        rintro e w6 ⟨rfl, kp, F', hI6, hF6⟩
        have HI6 := Lib.hid hI6
        have hd5 : ∀ q, q < w5.heap.size → (fun q => (G q ∨ q < w.heap.size) ∨ wr.heap.size ≤ q) q → ¬ F q := fun q _ e hf => by
          rcases e with (e | e) | e
          · exact (hG.out q e).2 hf
          · have := hF.out q hf; omega
          · have := hFl.out q hf; omega
        have P6 : Hid (PatsIn w6 (fun q => ((G q ∨ q < w.heap.size) ∨ wr.heap.size ≤ q) ∧ q < w5.heap.size) A5 (idxL L p).length (idxL L p)) := by
          have h1 : PatsIn w5 (fun q => ((G q ∨ q < w.heap.size) ∨ wr.heap.size ≤ q) ∧ q < w5.heap.size) A5 (idxL L p).length (idxL L p) := P5.out.both
          exact h1.stay (kp.stay fun q hl hg hf => hd5 q hl hg.1 hf)
        have B6 := Lib.hid (B5.out.trans (kp.below hF.out B5.out.size))
        have hF6w : Hid (∀ q, F' q → w.heap.size ≤ q) := fun q e => (hF6 q e).elim (hF.out q) (fun e => Nat.le_trans B5.out.size e)
        have hG6 : Hid (∀ q, (((G q ∨ q < w.heap.size) ∨ wr.heap.size ≤ q) ∧ q < w5.heap.size) → q < w6.heap.size ∧ ¬ F' q) := fun q e => ⟨Nat.lt_of_lt_of_le e.2 kp.size, fun hf => (hF6 q hf).elim (hd5 q e.2 e.1) (fun hf => by have := e.2; omega)⟩
        clear kp hI6 hF6 hd5 HU P5 HI5 hF hG hFl R
        obtain ⟨G6, hGe⟩ : ∃ G6 : Nat → Prop, ∀ q, G6 q ↔ (((G q ∨ q < w.heap.size) ∨ wr.heap.size ≤ q) ∧ q < w5.heap.size) := ⟨_, fun _ => Iff.rfl⟩
        have P6 := Lib.hid (P6.out.mono fun q e => (hGe q).2 e)
        have hG6 : Hid (∀ q, G6 q → q < w6.heap.size ∧ ¬ F' q) := fun q e => hG6.out q ((hGe q).1 e)
        clear hGe
        generalize idxL L p = L6 at *
        have RP := Lib.hid (pid_range (rangeAt_below R0.out B6.out hb.out))
        have HGet := Lib.hid (get31_any HI6.out p.1)
        have hl6 : Hid (L6.length ≤ maxLen) := by have := hl1.out; rw [Hid]; unfold maxLen; omega
        have HRG := Lib.hid (fun (u : World) (hu : Below w6.heap.size w6 u) => rget31_any L6 p.1 u G6 (fun q e => Nat.lt_of_lt_of_le (hG6.out q e).1 hu.size) A5 L6.length c5 (P6.out.ext hu) hl6.out)
        generalize (findP L6 p.1).isSome = bs at HGet HRG
        go_wp2_with (refine wpList_load_mid rfl 41 _ (by rfl) b (o + k * 4) (by rfl) _ _ RP.out underPid rfl infoPid ?_)
        refine HGet.out.mono ?_
        rintro e w7 ⟨cq, rfl, pq, b7⟩
        have PQ := Lib.hid pq.at_
        have HI7 := Lib.hid (HI6.out.ext b7)
        have P7 := Lib.hid (P6.out.ext b7)
        have B7 := Lib.hid (B6.out.trans (b7.mono B6.out.size))
        have h67 := Lib.hid b7
        generalize getV L6 p.1 = q at *
        obtain ⟨⟨A3, c3, A4, c4, rfl, _, _⟩, _, _⟩ := PQ.out
        clear pq b7 HGet HI6 RP
        have K8 : Hid (Blk ((w7.alloc (.cells #[.int .u8 0, .int .u16 0, .slice none 0 0, .slice none 0 0] 45)).setRow w7.heap.size (patC q.1 A3 q.2.1.length c3 A4 q.2.2.length c4).toArray) w7.heap.size 45 (patC q.1 A3 q.2.1.length c3 A4 q.2.2.length c4).toArray) := (Blk.new _ _ _).row _
        have BA : Hid (Below w7.heap.size w7 ((w7.alloc (.cells #[.int .u8 0, .int .u16 0, .slice none 0 0, .slice none 0 0] 45)).setRow w7.heap.size (patC q.1 A3 q.2.1.length c3 A4 q.2.2.length c4).toArray)) := below_setRow ((Below.refl _ _).alloc (Nat.le_refl _) _) (Nat.le_refl _) _
        go_upto_region 13 with (first
          | (refine wpList_alloced (allocPat _) ?_)
          | (refine wpList_store_row rfl 45 _ _ (by rfl) w7.heap.size (patC q.1 A3 q.2.1.length c3 A4 q.2.2.length c4).toArray (by rfl) (by rfl) _ _ (Blk.new _ _ _) infoPat rfl patC_one ?_))
        generalize ((w7.alloc (.cells #[.int .u8 0, .int .u16 0, .slice none 0 0, .slice none 0 0] 45)).setRow w7.heap.size (patC q.1 A3 q.2.1.length c3 A4 q.2.2.length c4).toArray) = w8 at *
        have h68 := Lib.hid (h67.out.trans (BA.out.mono h67.out.size))
        have HI8 := Lib.hid (HI7.out.ext BA.out)
        have PQ8 := Lib.hid (PQ.out.ext BA.out)
        have B8 := Lib.hid (B7.out.trans (BA.out.mono B7.out.size))
        have RP := Lib.hid (pid_range (rangeAt_below R0.out B8.out hb.out))
        clear BA HI7 PQ B7 P7
        generalize w7.heap.size = g8 at *
        go_wp2_with (refine wpList_load_mid rfl 41 _ (by rfl) b (o + k * 4) (by rfl) _ _ RP.out underPid rfl infoPid ?_)
        refine (HRG.out w8 h68.out).mono ?_
        rintro e w9 ⟨cr, rfl, pr, b9⟩
        have PR := Lib.hid pr.at_
        obtain ⟨⟨A7, c7, A9, c9, rfl, _, _⟩, _, _⟩ := PR.out
        have HI9 := Lib.hid (HI8.out.ext b9)
        have PQ9 := Lib.hid (PQ8.out.ext b9)
        have K9 := Lib.hid (K8.out.ext b9)
        have B9 := Lib.hid (B8.out.trans (b9.mono B8.out.size))
        have h69 := Lib.hid (h68.out.trans (b9.mono h68.out.size))
        clear pr b9 HRG RP K8 PQ8 HI8 B8 h67 h68
        have K10 : Hid (Blk ((w9.alloc (.cells #[.int .u8 0, .int .u16 0, .slice none 0 0, .slice none 0 0] 45)).setRow w9.heap.size (patC q.1 A7 q.2.1.length c7 A9 q.2.2.length c9).toArray) w9.heap.size 45 (patC q.1 A7 q.2.1.length c7 A9 q.2.2.length c9).toArray) := (Blk.new _ _ _).row _
        have BA : Hid (Below w9.heap.size w9 ((w9.alloc (.cells #[.int .u8 0, .int .u16 0, .slice none 0 0, .slice none 0 0] 45)).setRow w9.heap.size (patC q.1 A7 q.2.1.length c7 A9 q.2.2.length c9).toArray)) := below_setRow ((Below.refl _ _).alloc (Nat.le_refl _) _) (Nat.le_refl _) _
        go_upto_region 14 with (first
          | (refine wpList_alloced (allocPat _) ?_)
          | (refine wpList_store_row rfl 45 _ _ (by rfl) w9.heap.size (patC q.1 A7 q.2.1.length c7 A9 q.2.2.length c9).toArray (by rfl) (by rfl) _ _ (Blk.new _ _ _) infoPat rfl patC_one ?_))
        generalize ((w9.alloc (.cells #[.int .u8 0, .int .u16 0, .slice none 0 0, .slice none 0 0] 45)).setRow w9.heap.size (patC q.1 A7 q.2.1.length c7 A9 q.2.2.length c9).toArray) = w10 at *
        have h610 := Lib.hid (h69.out.trans (BA.out.mono h69.out.size))
        have HIa := Lib.hid (HI9.out.ext BA.out)
        have PQa := Lib.hid (PQ9.out.ext BA.out)
        have PRa := Lib.hid (PR.out.ext BA.out)
        have Ka := Lib.hid (K9.out.ext BA.out)
        have Ba := Lib.hid (B9.out.trans (BA.out.mono B9.out.size))
        clear BA HI9 PQ9 PR K9 B9 h69
        generalize w9.heap.size = g10 at *
        have HS := Lib.hid (rpsame q q w10 _ _ PQa.out PRa.out)
        rw [decide_eq_true (rfl : q = q)] at HS
        have EQB : ∀ u : World, (binOp .neq 4 (.bool bs) (.bool bs)).run Try.prog u = .ok (.bool false) u := fun u => by cases bs <;> kernel_rfl
        have hne2 : (((L6.length : Nat) : Int) != ((L6.length : Nat) : Int)) = false := by simp
        clear PQa PRa hne
        go_wp2_with (first
          | (refine wpList_load_rowG (by rfl) 45 _ (by rfl) g8 (by rfl) _ _ _ _ Ka.out underPat rfl infoPat ?_)
          | (refine wpList_load_rowG (by rfl) 45 _ (by rfl) g10 (by rfl) _ _ _ _ K10.out underPat rfl infoPat ?_))
        refine HS.out.mono ?_
        rintro e w12 ⟨rfl, b12⟩
        have HIc := Lib.hid (HIa.out.ext b12)
        have Bc := Lib.hid (Ba.out.trans (b12.mono Ba.out.size))
        have h612 := Lib.hid (h610.out.trans (b12.mono h610.out.size))
        clear b12 HS HIa Ba h610 Ka K10
        go_wp2_with fail
        refine (len31_any HIc.out).mono ?_
        rintro e _ ⟨rfl, rfl⟩
        have Pc := Lib.hid (P6.out.ext h612.out)
        have XN : Hid (∃ F G A' c', Value.slice A5 L6.length c5 = .slice A' (madeL (l.take (k + 1))).length c' ∧ IdxAt w12 F g (madeL (l.take (k + 1))) ∧ PatsIn w12 G A' (madeL (l.take (k + 1))).length (madeL (l.take (k + 1))) ∧ (∀ q, F q → w.heap.size ≤ q) ∧ ∀ q, G q → q < w12.heap.size ∧ ¬ F q) := by
          rw [N.out]
          exact ⟨F', G6, A5, c5, rfl, HIc.out, Pc.out, hF6w.out, fun q e => ⟨Nat.lt_of_lt_of_le (hG6.out q e).1 h612.out.size, (hG6.out q e).2⟩⟩
        clear Pc HIc P6 hG6 hF6w h612 N
        go_wp2_with fail
        go_roundw
        case rel => exact ⟨k + 1, by omega, by go_num, XN.out, Bc.out⟩
        case measure => simp [intOf]; omega
      · have hk' : k = n := by omega
        subst hk'
        rw [List.take_of_length_le (Nat.le_of_eq H0.out.len)] at HI HP
        rw [List.take_of_length_le (Nat.le_of_eq H0.out.len)]
        have hl : Hid ((madeL l).length ≤ 100) := Nat.le_trans (madeL_len _) (by have := H0.out.len; omega)
        generalize madeL l = L at *
        have hlm : Hid (L.length ≤ maxLen) := by have := hl.out; rw [Hid]; unfold maxLen; omega
        have HEQ : ∀ u : World, (binOp .eql 25 (.agg (vecA (vecL L))) (.agg (vecA (vecL L)))).run Try.prog u = .ok (.bool true) u := fun u => by
          rw [eql_vec _ _ (vecL_ok L) (vecL_ok L), decide_eq_true rfl]
        go_wp2_with fail
        refine (all31_any HI.out (by have := hl.out; omega)).mono ?_
        rintro e w5 ⟨s, rfl, O, b5⟩
        obtain ⟨A1, c1, rfl, _⟩ := O.slice
        have PL := Lib.hid O.pats.at_
        have HI := Lib.hid (HI.out.ext b5)
        have HP := Lib.hid (HP.out.ext b5)
        have B5 := Lib.hid (B.out.trans (b5.mono B.out.size))
        clear O b5
        go_wp2_with fail
        refine (patches30_same L w5 A1 A' L.length c1 c' PL.out HP.out.at_ hlm.out).mono ?_
        rintro e w6 ⟨rfl, b6⟩
        have HI := Lib.hid (HI.out.ext b6)
        have HP := Lib.hid (HP.out.ext b6)
        have B6 := Lib.hid (B5.out.trans (b6.mono B5.out.size))
        clear b6 PL
        go_wp2_with fail
        refine (vec31_any HI.out).mono ?_
        rintro e w7 ⟨rfl, b7⟩
        have HP := Lib.hid (HP.out.ext b7)
        have B7 := Lib.hid (B6.out.trans (b7.mono B6.out.size))
        have HV := Lib.hid (rvec31_any L w7 A' L.length c' HP.out.at_ hlm.out)
        clear b7 HI
        generalize vecA (vecL L) = vl at *
        go_wp2_with fail
        refine HV.out.mono ?_
        rintro e w8 ⟨rfl, b8⟩
        have B8 := Lib.hid (B7.out.trans (b8.mono B7.out.size))
        clear b8 HV HP
        go_wp2_with fail
        refine (works31 _).mono ?_
        rintro e w9 ⟨rfl, b9⟩
        have B9 := Lib.hid (B8.out.trans (b9.mono B8.out.size))
        clear b9
        go_wp2
        go_ret
        exact ⟨rfl, B9.out⟩
end Go.Proofs.Ytnhbbggpgieipaa
