/- Texts of general use, one behind another. -/
import Derived.Test.YtmfdggolnfoniaaLists
import Derived.Test.YtmfdggolnfoniaaHints
import Derived.Deep.RegionHeld3

/- Which patches are given: plain laws. -/
namespace Go.Proofs.Ytmfdggolnfoniaa
open Go.RowKit

/-- those that are given of the first k patches -/
def pickL (most : Int) (xs : List Nat) (l : List PatV) : Nat → List PatV
  | 0 => []
  | k + 1 =>
    match l[k]? with
    | none => pickL most xs l k
    | some p => if ((pickL most xs l k).length : Int) < most ∧ (k = 0 ∨ hasN xs p.1 = false) then pickL most xs l k ++ [p] else pickL most xs l k
section
variable {most : Int} {xs : List Nat} {l : List PatV} {k : Nat} {p : PatV}
theorem pick_yes (h : l[k]? = some p) (h1 : ((pickL most xs l k).length : Int) < most) (h2 : k = 0 ∨ hasN xs p.1 = false) : pickL most xs l (k + 1) = pickL most xs l k ++ [p] := by
  simp only [pickL, h, h1, h2, and_self, if_true]
theorem pick_full1 (h : l[k]? = some p) (h1 : ¬ ((pickL most xs l k).length : Int) < most) : pickL most xs l (k + 1) = pickL most xs l k := by
  simp only [pickL, h]
  rw [if_neg fun e => h1 e.1]
theorem pick_no (h : l[k]? = some p) (h1 : k ≠ 0) (h2 : hasN xs p.1 = true) : pickL most xs l (k + 1) = pickL most xs l k := by
  simp only [pickL, h]
  rw [if_neg fun e => by
    rcases e.2 with e | e
    · exact h1 e
    · rw [h2] at e; cases e]
theorem pick_step (most : Int) (xs : List Nat) (l : List PatV) (k : Nat) (h1 : ¬ ((pickL most xs l k).length : Int) < most) : pickL most xs l (k + 1) = pickL most xs l k := by
  cases h : l[k]? with
  | none => simp only [pickL, h]
  | some p => exact pick_full1 h h1
theorem pick_full (h1 : ¬ ((pickL most xs l k).length : Int) < most) : ∀ j, pickL most xs l (k + j) = pickL most xs l k
  | 0 => rfl
  | j + 1 => by
    have ih := pick_full h1 j
    rw [← Nat.add_assoc, pick_step most xs l (k + j) (by rw [ih]; exact h1), ih]
end
/-- the row that is made since the world w0, with its patches: they lie in w0 -/
def OwnP (w0 w : World) (v : Value) (l : List PatV) : Prop := ∃ rows : List (List Value), w.ownsRow w0.heap.size 37 4 v l.length rows.flatten ∧ RowsP w0 rows l
theorem OwnP.nil (w0 w : World) : OwnP w0 w (.slice none 0 0) [] := ⟨[], World.ownsRow_nil _ _ _ _, RowsP.nil w0⟩
theorem OwnP.ext {w0 w w' : World} {v : Value} {l : List PatV} (h : OwnP w0 w v l) (hb : Below w.heap.size w w') : OwnP w0 w' v l := by
  obtain ⟨rows, h1, h2⟩ := h
  exact ⟨rows, own_ext h1 hb, h2⟩
theorem OwnP.ret {w w0 w1 : World} {v : Value} {l : List PatV} (h : OwnP w0 w v l) (h0 : Below w0.heap.size w0 w) (hb : Below w1.heap.size w1 w) : RetPats w1 l (.returned v) w := by
  obtain ⟨rows, h1, h2⟩ := h
  obtain ⟨A, c, rfl, hp⟩ := pats_own h1 (h2.ext h0) rfl
  exact ⟨A, c, rfl, hp, hb⟩
/-- one patch more -/
theorem OwnP.push {w0 w : World} {v : Value} {rows : List (List Value)} {l : List PatV} {r : List Value} {p : PatV} (h : w.ownsRow w0.heap.size 37 4 v (l.length + 1) (rows.flatten ++ r)) (hr : RowsP w0 rows l) (hp : PatAt w0 r p) : OwnP w0 w v (l ++ [p]) := by
  refine ⟨rows ++ [r], ?_, hr.snoc hp⟩
  rw [List.length_append, List.flatten_append]
  simpa using h
end Go.Proofs.Ytmfdggolnfoniaa

/- Which patches are given: the program's, walked. -/
namespace Go.Proofs.Ytmfdggolnfoniaa
open Go.RowKit

set_option maxRecDepth 100000 in
set_option maxHeartbeats 4000000 in
theorem pick_any (l : List PatV) (xs : List Nat) (hx : BlOk xs) (batch : Int) (w : World) (A : Option Addr) (n c : Nat) (h : PatsAt w A n l) (hm : n ≤ maxLen) :
    Calls Try.prog 11 #[.slice A n c, .agg (encBl xs).toArray, .int .i64 batch] w (RetPats w (pickL (min batch 8) xs l n)) := by
  unfold maxLen at hm
  have H := Lib.hid h
  have HH := Lib.hid (fun p u => has13_any xs hx p u)
  have HI := Lib.hid (bl_info hx)
  clear h
  obtain ⟨xa, xb, xc, xd, rfl⟩ := blOk_four hx
  have K1 : Hid (Blk (w.alloc (.cells (encBl [xa, xb, xc, xd]).toArray 25)) w.heap.size 25 (encBl [xa, xb, xc, xd]).toArray) := Blk.new _ _ _
  have B0 : Hid (Below w.heap.size w (w.alloc (.cells (encBl [xa, xb, xc, xd]).toArray 25))) := below_new _ _
  go_enter Try.func11, Try.ntmps11
  go_upto_region 1 with fail
  generalize (w.alloc (.cells (encBl [xa, xb, xc, xd]).toArray 25)) = w2 at *
  generalize [xa, xb, xc, xd] = xs at *
  have hg2 : Hid (w.heap.size < w2.heap.size) := K1.out.lt
  have H := Lib.hid (H.out.ext B0.out)
  generalize w.heap.size = gb at K1 hg2 ⊢
  have BS := Lib.hid (Below.refl w2.heap.size w2)
  have M : min batch 8 ≤ 8 := Int.min_le_right _ _
  go_upto_region 2 with fail
  generalize min batch 8 = most at *
  go_wp2_with fail
  go_loopw [8, 15] (fun v i wr => ∃ k : Nat, k ≤ n ∧ i = .int .i64 k ∧ Hid (OwnP w2 wr v (pickL most xs l k)) ∧ Hid (Blk wr gb 25 (encBl xs).toArray) ∧ Hid (Below w2.heap.size w2 wr)) (fun _ i _ => n - (intOf i).toNat)
  case atStart => exact ⟨0, by omega, rfl, OwnP.nil _ _, K1.out, BS.out⟩
  case round =>
    clear K1 BS
    obtain ⟨k, hk, rfl, O, K1, B⟩ := hrel
    have hk0 : (0 : Int) ≤ (k : Int) := by omega
    have hw2 := Lib.hid B.out.size
    by_cases hlt : k < n
    · have hlk : (k : Int) < (n : Int) := by omega
      obtain ⟨b, o, p, r, rfl, hb, hp, pa, R⟩ := H.out.at_ hlt
      have R := Lib.hid (rangeAt_below R B.out hb)
      have PA := Lib.hid pa
      have h4 := Lib.hid pa.len4
      have h1 := Lib.hid pa.one
      obtain ⟨⟨A1, c1, A2, c2, rfl, _, _⟩, _, _⟩ := PA.out
      clear pa
      have t0 : wr.cell? ⟨b, o + k * 4, none⟩ = some (.int .u8 ((p.1.1.val : Nat) : Int)) := R.out 0 _ rfl
      have t1 : wr.cell? ⟨b, o + k * 4 + 1, none⟩ = some (.int .u16 ((p.1.2.val : Nat) : Int)) := R.out 1 _ rfl
      have t2 : wr.cell? ⟨b, o + k * 4 + 2, none⟩ = some (.slice A1 p.2.1.length c1) := R.out 2 _ rfl
      have t3 : wr.cell? ⟨b, o + k * 4 + 3, none⟩ = some (.slice A2 p.2.2.length c2) := R.out 3 _ rfl
      have KP : Hid (Blk (wr.alloc (.cells #[.int .u8 ((p.1.1.val : Nat) : Int), .int .u16 ((p.1.2.val : Nat) : Int), .slice A1 p.2.1.length c1, .slice A2 p.2.2.length c2] 37)) wr.heap.size 37 (patC p.1 A1 p.2.1.length c1 A2 p.2.2.length c2).toArray) := Blk.new _ _ _
      have bn := below_new wr (.cells #[.int .u8 ((p.1.1.val : Nat) : Int), .int .u16 ((p.1.2.val : Nat) : Int), .slice A1 p.2.1.length c1, .slice A2 p.2.2.length c2] 37)
      have K3 := Lib.hid (K1.out.ext bn)
      have O3 := Lib.hid (O.out.ext bn)
      have B3 := Lib.hid (B.out.trans (bn.mono B.out.size))
      clear bn O K1 R
      go_upto_region 6 with fail
      generalize (wr.alloc (.cells #[.int .u8 ((p.1.1.val : Nat) : Int), .int .u16 ((p.1.2.val : Nat) : Int), .slice A1 p.2.1.length c1, .slice A2 p.2.2.length c2] 37)) = w3 at *
      generalize wr.heap.size = gp at *
      clear t0 t1 t2 t3
      have RP := Lib.hid (patC_pid KP.out)
      have O4 := O3.out
      obtain ⟨rows, own, hrs⟩ := O4
      obtain ⟨A', c', rfl, _, _⟩ := Sl.of_own own
      have own := Lib.hid own
      have hrs := Lib.hid hrs
      by_cases hf : ((pickL most xs l k).length : Int) < most
      · have hf' : ¬ (most ≤ ((pickL most xs l k).length : Int)) := by omega
        have hsz : (pickL most xs l k).length + 1 ≤ 8 := by omega
        by_cases hz : k = 0
        · have N := Lib.hid (pick_yes (xs := xs) hp hf (Or.inl hz))
          have hz' : (k : Int) = 0 := by omega
          generalize pickL most xs l k = L at *
          go_wp2_with (first
            | (refine wpList_load_row rfl 37 _ (by rfl) gp (by rfl) _ _ _ _ KP.out underPat rfl infoPat ?_)
            | (refine wpList_lit1 patSl h4.out (by omega) (by rfl) ?_)
            | (at_builtin; refine wpList_push patSl own.out (patC p.1 A1 p.2.1.length c1 A2 p.2.2.length c2) h4.out h1.out B3.out.size (by omega) (by unfold maxLen; omega) (by rfl) (by rfl) (by rfl) ?_; intro v4 w4 own4 bel4))
          have O5 := Lib.hid (OwnP.push own4 hrs.out PA.out)
          rw [← N.out] at O5
          have K5 := Lib.hid (K3.out.below bel4 hg2.out)
          have B5 := Lib.hid (B3.out.trans bel4)
          clear own4 bel4
          go_roundw
          case rel => exact ⟨k + 1, by omega, by rw [hz]; rfl, O5.out, K5.out, B5.out⟩
          case measure => simp [intOf]; omega
        · have hz' : ((k : Int) == 0) = false := by rw [beq_eq_false_iff_ne]; omega
          obtain ⟨ya, yb, yc, yd, rfl⟩ := blOk_four hx
          have q0 : w3.cell? ⟨gb, 0, none⟩ = some (.int .u64 ((ya : Nat) : Int)) := K3.out.cell 0
          have q1 : w3.cell? ⟨gb, 1, none⟩ = some (.int .u64 ((yb : Nat) : Int)) := K3.out.cell 1
          have q2 : w3.cell? ⟨gb, 2, none⟩ = some (.int .u64 ((yc : Nat) : Int)) := K3.out.cell 2
          have q3 : w3.cell? ⟨gb, 3, none⟩ = some (.int .u64 ((yd : Nat) : Int)) := K3.out.cell 3
          have q4 : w3.cell? ⟨gp, 0, none⟩ = some (.int .u8 ((p.1.1.val : Nat) : Int)) := KP.out.cell 0
          have q5 : w3.cell? ⟨gp, 1, none⟩ = some (.int .u16 ((p.1.2.val : Nat) : Int)) := KP.out.cell 1
          have HC : Hid (∀ u : World, Calls Try.prog 29 #[.agg #[.int .u64 ((ya : Nat) : Int), .int .u64 ((yb : Nat) : Int), .int .u64 ((yc : Nat) : Int), .int .u64 ((yd : Nat) : Int)], .agg #[.int .u8 ((p.1.1.val : Nat) : Int), .int .u16 ((p.1.2.val : Nat) : Int)]] u (RetB u (.bool (hasN [ya, yb, yc, yd] p.1)))) := fun u => HH.out p.1 u
          cases hh : hasN [ya, yb, yc, yd] p.1
          · have N := Lib.hid (pick_yes hp hf (Or.inr hh))
            rw [hh] at HC
            generalize pickL most [ya, yb, yc, yd] l k = L at *
            go_wp2_with fail
            refine (HC.out _).mono ?_
            rintro e w4 ⟨rfl, b4⟩
            have K3 := Lib.hid (K3.out.ext b4)
            have KP := Lib.hid (KP.out.ext b4)
            have own := Lib.hid (own_ext own.out b4)
            have B3 := Lib.hid (B3.out.trans (b4.mono B3.out.size))
            clear b4 RP O3
            go_wp2_with (first
              | (refine wpList_load_row rfl 37 _ (by rfl) gp (by rfl) _ _ _ _ KP.out underPat rfl infoPat ?_)
              | (refine wpList_lit1 patSl h4.out (by omega) (by rfl) ?_)
              | (at_builtin; refine wpList_push patSl own.out (patC p.1 A1 p.2.1.length c1 A2 p.2.2.length c2) h4.out h1.out B3.out.size (by omega) (by unfold maxLen; omega) (by rfl) (by rfl) (by rfl) ?_; intro v5 w5 own4 bel4))
            have O5 := Lib.hid (OwnP.push own4 hrs.out PA.out)
            rw [← N.out] at O5
            have K5 := Lib.hid (K3.out.below bel4 hg2.out)
            have B5 := Lib.hid (B3.out.trans bel4)
            clear own4 bel4
            go_roundw
            case rel => exact ⟨k + 1, by omega, by go_num, O5.out, K5.out, B5.out⟩
            case measure => simp [intOf]; omega
          · have N := Lib.hid (pick_no (most := most) hp hz hh)
            rw [hh] at HC
            generalize pickL most [ya, yb, yc, yd] l k = L at *
            go_wp2_with fail
            refine (HC.out _).mono ?_
            rintro e w4 ⟨rfl, b4⟩
            have K5 := Lib.hid (K3.out.ext b4)
            have O5 := Lib.hid (O3.out.ext b4)
            have B5 := Lib.hid (B3.out.trans (b4.mono B3.out.size))
            clear b4 RP O3
            go_wp2_with fail
            go_roundw
            case rel => exact ⟨k + 1, by omega, by go_num, by rw [N.out]; exact O5.out, K5.out, B5.out⟩
            case measure => simp [intOf]; omega
      · have F : Hid (pickL most xs l n = pickL most xs l k) := by
          have := pick_full (xs := xs) hf (n - k)
          rw [show k + (n - k) = n by omega] at this
          exact this
        have hf' : most ≤ ((pickL most xs l k).length : Int) := by omega
        go_wp2
        go_ret
        rw [F.out]
        exact O3.out.ret B3.out (B0.out.trans (B3.out.mono B0.out.size))
    · have hk : k = n := by omega
      subst hk
      have O4 := O.out
      obtain ⟨rows, own, hrs⟩ := O4
      obtain ⟨A', c', rfl, _, _⟩ := Sl.of_own own
      go_wp2
      go_ret
      exact O.out.ret B.out (B0.out.trans (B.out.mono B0.out.size))
end Go.Proofs.Ytmfdggolnfoniaa

/- Which patches are given: the document's, walked. -/
namespace Go.Proofs.Ytmfdggolnfoniaa
open Go.RowKit

theorem patC_pidR {w : World} {b o : Nat} {id : PidV} {A : Option Addr} {n c : Nat} {A' : Option Addr} {n' c' : Nat} (h : w.rangeAt b o (patC id A n c A' n' c')) : w.rangeAt b o (encP id) := fun j v hj => by
  match j, hj with
  | 0, hj => exact h 0 v hj
  | 1, hj => exact h 1 v hj
  | j + 2, hj => simp [encP] at hj
set_option maxRecDepth 100000 in
set_option maxHeartbeats 4000000 in
theorem rpick_any (l : List PatV) (xs : List Nat) (hx : BlOk xs) (batch : Int) (w : World) (A : Option Addr) (n c : Nat) (h : PatsAt w A n l) (hm : n ≤ maxLen) :
    Calls Try.prog 12 #[.slice A n c, .agg (encBl xs).toArray, .int .i64 batch] w (RetPats w (pickL (min batch 8) xs l n)) := by
  unfold maxLen at hm
  have H := Lib.hid h
  have HH := Lib.hid (fun p u => rhas13_any xs hx p u)
  have HI := Lib.hid (bl_info hx)
  clear h
  obtain ⟨xa, xb, xc, xd, rfl⟩ := blOk_four hx
  have K1 : Hid (Blk (w.alloc (.cells (encBl [xa, xb, xc, xd]).toArray 25)) w.heap.size 25 (encBl [xa, xb, xc, xd]).toArray) := Blk.new _ _ _
  have B0 : Hid (Below w.heap.size w (w.alloc (.cells (encBl [xa, xb, xc, xd]).toArray 25))) := below_new _ _
  go_enter Try.func12, Try.ntmps12
  go_upto_region 1 with fail
  generalize (w.alloc (.cells (encBl [xa, xb, xc, xd]).toArray 25)) = w2 at *
  generalize [xa, xb, xc, xd] = xs at *
  have hg2 : Hid (w.heap.size < w2.heap.size) := K1.out.lt
  have H := Lib.hid (H.out.ext B0.out)
  generalize w.heap.size = gb at K1 hg2 ⊢
  have BS := Lib.hid (Below.refl w2.heap.size w2)
  have M : min batch 8 ≤ 8 := Int.min_le_right _ _
  obtain ⟨most, hmost⟩ : ∃ m, m = min batch 8 := ⟨_, rfl⟩
  rw [← hmost] at M ⊢
  by_cases hb8 : 8 < batch
  · have em : most = 8 := by omega
    have EM : Hid (min batch 8 = most) := hmost.symm
    clear hmost
    subst em
    go_wp2_with fail
    go_loopw [7, 8] (fun v i wr => ∃ k : Nat, k ≤ n ∧ i = .int .i64 k ∧ Hid (OwnP w2 wr v (pickL 8 xs l k)) ∧ Hid (Blk wr gb 25 (encBl xs).toArray) ∧ Hid (Below w2.heap.size w2 wr)) (fun _ i _ => n - (intOf i).toNat)
    case atStart => exact ⟨0, by omega, rfl, OwnP.nil _ _, K1.out, BS.out⟩
    case round =>
      clear K1 BS hb8
      obtain ⟨k, hk, rfl, O, K1, B⟩ := hrel
      have hk0 : (0 : Int) ≤ (k : Int) := by omega
      have O4 := O.out
      obtain ⟨rows, own, hrs⟩ := O4
      obtain ⟨A', c', rfl, _, _⟩ := Sl.of_own own
      have own := Lib.hid own
      have hrs := Lib.hid hrs
      by_cases hlt : k < n
      · have hlk : (k : Int) < (n : Int) := by omega
        obtain ⟨b, o, p, r, rfl, hb, hp, pa, R⟩ := H.out.at_ hlt
        have hb1 : b < wr.heap.size := Nat.lt_of_lt_of_le hb B.out.size
        have R := Lib.hid (rangeAt_below R B.out hb)
        have PA := Lib.hid pa
        have h4 := Lib.hid pa.len4
        have h1 := Lib.hid pa.one
        obtain ⟨⟨A1, c1, A2, c2, rfl, _, _⟩, _, _⟩ := PA.out
        clear pa
        have RP := Lib.hid (patC_pidR R.out)
        by_cases hf : ((pickL 8 xs l k).length : Int) < 8
        · have hsz : (pickL 8 xs l k).length + 1 ≤ 8 := by omega
          by_cases hz : k = 0
          · have N := Lib.hid (pick_yes (xs := xs) hp hf (Or.inl hz))
            have hz' : ((k : Int) == 0) = true := by rw [beq_iff_eq]; omega
            clear hz
            generalize pickL 8 xs l k = L at *
            go_wp2_with fail
            refine wp_region_ext mixedS (by kernel_rfl) ?_
            repeat (first | go_big_quiet_skip | go_big_quiet_step (fail))
            refine wpQuiet_nil ?_
            rintro _ ⟨z, rfl⟩
            have b4 := z.h
            generalize z.w = w4 at *
            clear hz'
            have K3 := Lib.hid (K1.out.ext b4)
            have R3 := Lib.hid (rangeAt_below R.out b4 hb1)
            have own := Lib.hid (own_ext own.out b4)
            have B3 := Lib.hid (B.out.trans (b4.mono B.out.size))
            clear b4 RP O R
            go_wp2_with (first
              | (refine wpList_load_mid rfl 37 _ (by rfl) b (o + k * 4) (by rfl) _ _ R3.out underPat rfl infoPat ?_)
              | (refine wpList_lit1 patSl h4.out (by omega) (by rfl) ?_)
              | (at_builtin; refine wpList_push patSl own.out (patC p.1 A1 p.2.1.length c1 A2 p.2.2.length c2) h4.out h1.out B3.out.size (by omega) (by unfold maxLen; omega) (by rfl) (by rfl) (by rfl) ?_; intro v5 w5 own4 bel4))
            have O5 := Lib.hid (OwnP.push own4 hrs.out PA.out)
            rw [← N.out] at O5
            have K5 := Lib.hid (K3.out.below bel4 hg2.out)
            have B5 := Lib.hid (B3.out.trans bel4)
            clear own4 bel4
            go_roundw
            case rel => exact ⟨k + 1, by omega, by go_num, O5.out, K5.out, B5.out⟩
            case measure => simp [intOf]; omega
          · have hz' : ((k : Int) == 0) = false := by rw [beq_eq_false_iff_ne]; omega
            cases hh : hasN xs p.1
            · have N := Lib.hid (pick_yes (xs := xs) hp hf (Or.inr hh))
              have HC := Lib.hid (fun u => HH.out p.1 u)
              rw [hh] at HC
              generalize pickL 8 xs l k = L at *
              go_wp2_with fail
              refine wp_region_ext mixedS (by kernel_rfl) ?_
              repeat (first
                | go_big_quiet_skip
                | (refine wpQuiet_load_row K1.out underBl rfl HI.out rfl rfl ?_; simp only [List.set_cons_succ, List.set_cons_zero])
                | (refine wpQuiet_load_mid (rangeAt_ext RP.out hb1) underPid rfl infoPid rfl rfl ?_; simp only [List.set_cons_succ, List.set_cons_zero])
                | go_big_quiet_step ((go_at_call 30; exact ext_call (HC.out _))))
              refine wpQuiet_nil ?_
              rintro _ ⟨z, rfl⟩
              have b4 := z.h
              generalize z.w = w4 at *
              have K3 := Lib.hid (K1.out.ext b4)
              have R3 := Lib.hid (rangeAt_below R.out b4 hb1)
              have own := Lib.hid (own_ext own.out b4)
              have B3 := Lib.hid (B.out.trans (b4.mono B.out.size))
              clear b4 RP O R
              go_wp2_with (first
                | (refine wpList_load_mid rfl 37 _ (by rfl) b (o + k * 4) (by rfl) _ _ R3.out underPat rfl infoPat ?_)
                | (refine wpList_lit1 patSl h4.out (by omega) (by rfl) ?_)
                | (at_builtin; refine wpList_push patSl own.out (patC p.1 A1 p.2.1.length c1 A2 p.2.2.length c2) h4.out h1.out B3.out.size (by omega) (by unfold maxLen; omega) (by rfl) (by rfl) (by rfl) ?_; intro v5 w5 own4 bel4))
              have O5 := Lib.hid (OwnP.push own4 hrs.out PA.out)
              rw [← N.out] at O5
              have K5 := Lib.hid (K3.out.below bel4 hg2.out)
              have B5 := Lib.hid (B3.out.trans bel4)
              clear own4 bel4
              go_roundw
              case rel => exact ⟨k + 1, by omega, by go_num, O5.out, K5.out, B5.out⟩
              case measure => simp [intOf]; omega
            · have N := Lib.hid (pick_no (most := 8) (xs := xs) hp hz hh)
              have HC := Lib.hid (fun u => HH.out p.1 u)
              rw [hh] at HC
              generalize pickL 8 xs l k = L at *
              go_wp2_with fail
              refine wp_region_ext mixedS (by kernel_rfl) ?_
              repeat (first
                | go_big_quiet_skip
                | (refine wpQuiet_load_row K1.out underBl rfl HI.out rfl rfl ?_; simp only [List.set_cons_succ, List.set_cons_zero])
                | (refine wpQuiet_load_mid (rangeAt_ext RP.out hb1) underPid rfl infoPid rfl rfl ?_; simp only [List.set_cons_succ, List.set_cons_zero])
                | go_big_quiet_step ((go_at_call 30; exact ext_call (HC.out _))))
              refine wpQuiet_nil ?_
              rintro _ ⟨z, rfl⟩
              have b4 := z.h
              generalize z.w = w4 at *
              have K5 := Lib.hid (K1.out.ext b4)
              have O5 := Lib.hid (O.out.ext b4)
              have B5 := Lib.hid (B.out.trans (b4.mono B.out.size))
              clear b4 RP O R
              go_wp2_with fail
              go_roundw
              case rel => exact ⟨k + 1, by omega, by go_num, by rw [N.out]; exact O5.out, K5.out, B5.out⟩
              case measure => simp [intOf]; omega
        · have N := Lib.hid (pick_full1 (xs := xs) hp hf)
          have hfd := decide_eq_false hf
          clear hf
          generalize pickL 8 xs l k = L at *
          go_wp2_with fail
          refine wp_region_ext mixedS (by kernel_rfl) ?_
          repeat (first | go_big_quiet_skip | go_big_quiet_step (fail))
          refine wpQuiet_nil ?_
          rintro _ ⟨z, rfl⟩
          have b4 := z.h
          generalize z.w = w4 at *
          have K5 := Lib.hid (K1.out.ext b4)
          have O5 := Lib.hid (O.out.ext b4)
          have B5 := Lib.hid (B.out.trans (b4.mono B.out.size))
          clear b4 RP O R
          go_wp2_with fail
          go_roundw
          case rel => exact ⟨k + 1, by omega, by go_num, by rw [N.out]; exact O5.out, K5.out, B5.out⟩
          case measure => simp [intOf]; omega
      · have hk : k = n := by omega
        subst hk
        go_wp2
        go_ret
        rw [EM.out]
        exact O.out.ret B.out (B0.out.trans (B.out.mono B0.out.size))
  · have em : most = batch := by omega
    have EM : Hid (min batch 8 = most) := hmost.symm
    clear hmost
    subst em
    go_wp2_with fail
    go_loopw [7, 8] (fun v i wr => ∃ k : Nat, k ≤ n ∧ i = .int .i64 k ∧ Hid (OwnP w2 wr v (pickL most xs l k)) ∧ Hid (Blk wr gb 25 (encBl xs).toArray) ∧ Hid (Below w2.heap.size w2 wr)) (fun _ i _ => n - (intOf i).toNat)
    case atStart => exact ⟨0, by omega, rfl, OwnP.nil _ _, K1.out, BS.out⟩
    case round =>
      clear K1 BS hb8
      obtain ⟨k, hk, rfl, O, K1, B⟩ := hrel
      have hk0 : (0 : Int) ≤ (k : Int) := by omega
      have O4 := O.out
      obtain ⟨rows, own, hrs⟩ := O4
      obtain ⟨A', c', rfl, _, _⟩ := Sl.of_own own
      have own := Lib.hid own
      have hrs := Lib.hid hrs
      by_cases hlt : k < n
      · have hlk : (k : Int) < (n : Int) := by omega
        obtain ⟨b, o, p, r, rfl, hb, hp, pa, R⟩ := H.out.at_ hlt
        have hb1 : b < wr.heap.size := Nat.lt_of_lt_of_le hb B.out.size
        have R := Lib.hid (rangeAt_below R B.out hb)
        have PA := Lib.hid pa
        have h4 := Lib.hid pa.len4
        have h1 := Lib.hid pa.one
        obtain ⟨⟨A1, c1, A2, c2, rfl, _, _⟩, _, _⟩ := PA.out
        clear pa
        have RP := Lib.hid (patC_pidR R.out)
        by_cases hf : ((pickL most xs l k).length : Int) < most
        · have hsz : (pickL most xs l k).length + 1 ≤ 8 := by omega
          by_cases hz : k = 0
          · have N := Lib.hid (pick_yes (xs := xs) hp hf (Or.inl hz))
            have hz' : ((k : Int) == 0) = true := by rw [beq_iff_eq]; omega
            clear hz
            generalize pickL most xs l k = L at *
            go_wp2_with fail
            refine wp_region_ext mixedS (by kernel_rfl) ?_
            repeat (first | go_big_quiet_skip | go_big_quiet_step (fail))
            refine wpQuiet_nil ?_
            rintro _ ⟨z, rfl⟩
            have b4 := z.h
            generalize z.w = w4 at *
            clear hz'
            have K3 := Lib.hid (K1.out.ext b4)
            have R3 := Lib.hid (rangeAt_below R.out b4 hb1)
            have own := Lib.hid (own_ext own.out b4)
            have B3 := Lib.hid (B.out.trans (b4.mono B.out.size))
            clear b4 RP O R
            go_wp2_with (first
              | (refine wpList_load_mid rfl 37 _ (by rfl) b (o + k * 4) (by rfl) _ _ R3.out underPat rfl infoPat ?_)
              | (refine wpList_lit1 patSl h4.out (by omega) (by rfl) ?_)
              | (at_builtin; refine wpList_push patSl own.out (patC p.1 A1 p.2.1.length c1 A2 p.2.2.length c2) h4.out h1.out B3.out.size (by omega) (by unfold maxLen; omega) (by rfl) (by rfl) (by rfl) ?_; intro v5 w5 own4 bel4))
            have O5 := Lib.hid (OwnP.push own4 hrs.out PA.out)
            rw [← N.out] at O5
            have K5 := Lib.hid (K3.out.below bel4 hg2.out)
            have B5 := Lib.hid (B3.out.trans bel4)
            clear own4 bel4
            go_roundw
            case rel => exact ⟨k + 1, by omega, by go_num, O5.out, K5.out, B5.out⟩
            case measure => simp [intOf]; omega
          · have hz' : ((k : Int) == 0) = false := by rw [beq_eq_false_iff_ne]; omega
            cases hh : hasN xs p.1
            · have N := Lib.hid (pick_yes (xs := xs) hp hf (Or.inr hh))
              have HC := Lib.hid (fun u => HH.out p.1 u)
              rw [hh] at HC
              generalize pickL most xs l k = L at *
              go_wp2_with fail
              refine wp_region_ext mixedS (by kernel_rfl) ?_
              repeat (first
                | go_big_quiet_skip
                | (refine wpQuiet_load_row K1.out underBl rfl HI.out rfl rfl ?_; simp only [List.set_cons_succ, List.set_cons_zero])
                | (refine wpQuiet_load_mid (rangeAt_ext RP.out hb1) underPid rfl infoPid rfl rfl ?_; simp only [List.set_cons_succ, List.set_cons_zero])
                | go_big_quiet_step ((go_at_call 30; exact ext_call (HC.out _))))
              refine wpQuiet_nil ?_
              rintro _ ⟨z, rfl⟩
              have b4 := z.h
              generalize z.w = w4 at *
              have K3 := Lib.hid (K1.out.ext b4)
              have R3 := Lib.hid (rangeAt_below R.out b4 hb1)
              have own := Lib.hid (own_ext own.out b4)
              have B3 := Lib.hid (B.out.trans (b4.mono B.out.size))
              clear b4 RP O R
              go_wp2_with (first
                | (refine wpList_load_mid rfl 37 _ (by rfl) b (o + k * 4) (by rfl) _ _ R3.out underPat rfl infoPat ?_)
                | (refine wpList_lit1 patSl h4.out (by omega) (by rfl) ?_)
                | (at_builtin; refine wpList_push patSl own.out (patC p.1 A1 p.2.1.length c1 A2 p.2.2.length c2) h4.out h1.out B3.out.size (by omega) (by unfold maxLen; omega) (by rfl) (by rfl) (by rfl) ?_; intro v5 w5 own4 bel4))
              have O5 := Lib.hid (OwnP.push own4 hrs.out PA.out)
              rw [← N.out] at O5
              have K5 := Lib.hid (K3.out.below bel4 hg2.out)
              have B5 := Lib.hid (B3.out.trans bel4)
              clear own4 bel4
              go_roundw
              case rel => exact ⟨k + 1, by omega, by go_num, O5.out, K5.out, B5.out⟩
              case measure => simp [intOf]; omega
            · have N := Lib.hid (pick_no (most := most) (xs := xs) hp hz hh)
              have HC := Lib.hid (fun u => HH.out p.1 u)
              rw [hh] at HC
              generalize pickL most xs l k = L at *
              go_wp2_with fail
              refine wp_region_ext mixedS (by kernel_rfl) ?_
              repeat (first
                | go_big_quiet_skip
                | (refine wpQuiet_load_row K1.out underBl rfl HI.out rfl rfl ?_; simp only [List.set_cons_succ, List.set_cons_zero])
                | (refine wpQuiet_load_mid (rangeAt_ext RP.out hb1) underPid rfl infoPid rfl rfl ?_; simp only [List.set_cons_succ, List.set_cons_zero])
                | go_big_quiet_step ((go_at_call 30; exact ext_call (HC.out _))))
              refine wpQuiet_nil ?_
              rintro _ ⟨z, rfl⟩
              have b4 := z.h
              generalize z.w = w4 at *
              have K5 := Lib.hid (K1.out.ext b4)
              have O5 := Lib.hid (O.out.ext b4)
              have B5 := Lib.hid (B.out.trans (b4.mono B.out.size))
              clear b4 RP O R
              go_wp2_with fail
              go_roundw
              case rel => exact ⟨k + 1, by omega, by go_num, by rw [N.out]; exact O5.out, K5.out, B5.out⟩
              case measure => simp [intOf]; omega
        · have N := Lib.hid (pick_full1 (xs := xs) hp hf)
          have hfd := decide_eq_false hf
          clear hf
          generalize pickL most xs l k = L at *
          go_wp2_with fail
          refine wp_region_ext mixedS (by kernel_rfl) ?_
          repeat (first | go_big_quiet_skip | go_big_quiet_step (fail))
          refine wpQuiet_nil ?_
          rintro _ ⟨z, rfl⟩
          have b4 := z.h
          generalize z.w = w4 at *
          have K5 := Lib.hid (K1.out.ext b4)
          have O5 := Lib.hid (O.out.ext b4)
          have B5 := Lib.hid (B.out.trans (b4.mono B.out.size))
          clear b4 RP O R
          go_wp2_with fail
          go_roundw
          case rel => exact ⟨k + 1, by omega, by go_num, by rw [N.out]; exact O5.out, K5.out, B5.out⟩
          case measure => simp [intOf]; omega
      · have hk : k = n := by omega
        subst hk
        go_wp2
        go_ret
        rw [EM.out]
        exact O.out.ret B.out (B0.out.trans (B.out.mono B0.out.size))
end Go.Proofs.Ytmfdggolnfoniaa

/- Patches given by a hint: whether any are as the document says: the statement's own function, but for the chapter's example. -/
namespace Go.Proofs.Ytmfdggolnfoniaa
open Go.RowKit

/-- the chapter's example stands -/
def Works35 : Prop := ∀ w : World, Calls Try.prog 9 #[] w (RetB w (.bool true))
theorem pick_len (most : Int) (xs : List Nat) (l : List PatV) : ∀ k, (pickL most xs l k).length ≤ k
  | 0 => Nat.le_refl _
  | k + 1 => by
    have ih := pick_len most xs l k
    simp only [pickL]
    split
    · omega
    · split
      · simp; omega
      · omega
set_option maxRecDepth 100000 in
set_option maxHeartbeats 4000000 in
theorem digestPicks_of (HW : Works35) (w : World) (l : List PatV) (xs : List Nat) (hx : BlOk xs) (batch : Int) (A : Option Addr) (n c : Nat) (h : PatsAt w A n l) (hm : n ≤ maxLen) :
    Calls Try.prog 3 #[.slice A n c, .agg (encBl xs).toArray, .int .i64 batch] w (RetB w (.bool true)) := by
  have H := Lib.hid h
  have HI := Lib.hid (bl_info hx)
  have HP := Lib.hid (fun (u : World) (hu : PatsAt u A n l) => pick_any l xs hx batch u A n c hu hm)
  have HR := Lib.hid (fun (u : World) (hu : PatsAt u A n l) => rpick_any l xs hx batch u A n c hu hm)
  have HW := Lib.hid HW
  have hL0 := pick_len (min batch 8) xs l n
  generalize pickL (min batch 8) xs l n = L at HP HR hL0
  have hL : L.length ≤ maxLen := Nat.le_trans hL0 hm
  clear h
  obtain ⟨xa, xb, xc, xd, rfl⟩ := blOk_four hx
  have K1 : Hid (Blk (w.alloc (.cells (encBl [xa, xb, xc, xd]).toArray 25)) w.heap.size 25 (encBl [xa, xb, xc, xd]).toArray) := Blk.new _ _ _
  have B0 : Hid (Below w.heap.size w (w.alloc (.cells (encBl [xa, xb, xc, xd]).toArray 25))) := below_new _ _
  go_enter Try.func3, Try.ntmps3
  go_upto_region 1 with fail
  generalize (w.alloc (.cells (encBl [xa, xb, xc, xd]).toArray 25)) = w2 at *
  have H := Lib.hid (H.out.ext B0.out)
  generalize w.heap.size = gb at K1 ⊢
  have HF := Lib.hid (few20_any l w2 A n c 20 H.out hm)
  cases hf : fewsB l 20
  · rw [fewsN_false hf] at HF
    go_wp2_with fail
    refine HF.out.mono ?_
    rintro e w3 ⟨rfl, b3⟩
    have B3 := Lib.hid (B0.out.trans (b3.mono B0.out.size))
    clear b3 HF
    go_wp2_with fail
    refine (HW.out _).mono ?_
    rintro e w4 ⟨rfl, b4⟩
    have B4 := Lib.hid (B3.out.trans (b4.mono B3.out.size))
    clear b4
    go_wp2
    go_ret
    exact ⟨rfl, B4.out⟩
  · rw [fewsN_true hf] at HF
    go_wp2_with fail
    refine HF.out.mono ?_
    rintro e w3 ⟨rfl, b3⟩
    have B3 := Lib.hid (B0.out.trans (b3.mono B0.out.size))
    have H := Lib.hid (H.out.ext b3)
    have K1 := Lib.hid (K1.out.ext b3)
    clear b3 HF hf
    have HS := Lib.hid (fun (u : World) (B1 B2 : Option Addr) (d1 d2 : Nat) (h1 : PatsAt u B1 L.length L) (h2 : PatsAt u B2 L.length L) => patches30_same L u B1 B2 L.length d1 d2 h1 h2 hL)
    have HP : Hid (∀ u : World, Below w3.heap.size w3 u → Calls Try.prog 11 #[.slice A n c, .agg #[.int .u64 ((xa : Nat) : Int), .int .u64 ((xb : Nat) : Int), .int .u64 ((xc : Nat) : Int), .int .u64 ((xd : Nat) : Int)], .int .i64 batch] u (RetPats u L)) := fun u hu => HP.out u (H.out.ext hu)
    have HR : Hid (∀ u : World, Below w3.heap.size w3 u → Calls Try.prog 12 #[.slice A n c, .agg #[.int .u64 ((xa : Nat) : Int), .int .u64 ((xb : Nat) : Int), .int .u64 ((xc : Nat) : Int), .int .u64 ((xd : Nat) : Int)], .int .i64 batch] u (RetPats u L)) := fun u hu => HR.out u (H.out.ext hu)
    have KS : Hid (∀ w', Below w3.heap.size w3 w' → (Below w3.heap.size w3 w' ∧ w'.cell? ⟨gb, 0, none⟩ = some (.int .u64 ((xa : Nat) : Int)) ∧ w'.cell? ⟨gb, 1, none⟩ = some (.int .u64 ((xb : Nat) : Int)) ∧ w'.cell? ⟨gb, 2, none⟩ = some (.int .u64 ((xc : Nat) : Int)) ∧ w'.cell? ⟨gb, 3, none⟩ = some (.int .u64 ((xd : Nat) : Int)))) := fun w' h =>
      ⟨h, (K1.out.ext h).cell 0, (K1.out.ext h).cell 1, (K1.out.ext h).cell 2, (K1.out.ext h).cell 3⟩
    clear K1 H HI
    generalize ((xa : Nat) : Int) = ya at *
    generalize ((xb : Nat) : Int) = yb at *
    generalize ((xc : Nat) : Int) = yc at *
    generalize ((xd : Nat) : Int) = yd at *
    go_upto_region 3 with fail
    go_region_held3 (fun w' => (Below w3.heap.size w3 w' ∧ w'.cell? ⟨gb, 0, none⟩ = some (.int .u64 ya) ∧ w'.cell? ⟨gb, 1, none⟩ = some (.int .u64 yb) ∧ w'.cell? ⟨gb, 2, none⟩ = some (.int .u64 yc) ∧ w'.cell? ⟨gb, 3, none⟩ = some (.int .u64 yd)))
      (first | assumption | exact KS.out _ ((Below.refl _ _).drew) | (refine KS.out _ (ext_trans ?_ hb); go_split_ands; assumption))
      (first
        | (go_at_call 11; refine (HP.out _ (by first | assumption | (go_split_ands; assumption))).mono ?_; rintro e w8 ⟨D1, d1, rfl, hs1, hb⟩)
        | (go_at_call 12; refine (HR.out _ (by first | assumption | (go_split_ands; assumption))).mono ?_; rintro e w8 ⟨D2, d2, rfl, hs2, hb⟩; replace hs1 := hs1.ext hb)
        | (go_at_call 10; refine (HS.out _ _ _ _ _ hs1 hs2).mono ?_; rintro e w8 ⟨rfl, hb⟩)
        | (go_at_call 9; refine (HW.out _).mono ?_; rintro e w8 ⟨rfl, hb⟩))
    all_goals (go_split_ands; go_wp2; go_ret)
    all_goals (refine ⟨rfl, B3.out.trans (Below.mono ?_ B3.out.size)⟩; assumption)
end Go.Proofs.Ytmfdggolnfoniaa

/- The chapter's example of patches given by a hint: the row of patches that it makes. -/
namespace Go.Proofs.Ytmfdggolnfoniaa
open Go.RowKit

def w35p (j : Nat) : PatV := ((⟨(j + 1) % 256, Nat.mod_lt _ (by omega)⟩, 1), [], [w18x])
def w35l : Nat → List PatV
  | 0 => []
  | k + 1 => w35l k ++ [w35p k]
theorem own_apart35 {w : World} {b1 n1 g : Nat} {e1 t : TypeId} {s1 : Nat} {v : Value} {x1 : List Value} {cs : Array Value} (h1 : w.ownsRow b1 e1 s1 v n1 x1) (h2 : Blk w g t cs) (hne : e1 ≠ t) : some g ≠ v.ownBlock := by
  intro hv
  rcases h1.2 with ⟨rfl, _⟩ | ⟨b, cap, cur, rfl, hb, hh, r⟩
  · cases hv
  · simp only [Value.ownBlock, Option.some.injEq] at hv
    subst hv
    have : some (Obj.cells cur e1) = some (Obj.cells cs t) := hh.symm.trans h2
    injection this with this
    injection this with _ h3 _
    exact hne h3
theorem grown35 {w w' : World} {g : Nat} {t : TypeId} {cs : Array Value} {row : Option Nat} (h : Blk w g t cs) (hb : w.grownBy w' row) (hg : some g ≠ row) : Blk w' g t cs := (hb.block g h.lt hg).trans h
/-- the row that the example makes -/
def OwnW (w : World) (base : Nat) (v : Value) (k : Nat) : Prop := ∃ rows : List (List Value), w.ownsRow base 37 4 v k rows.flatten ∧ rows.length = k ∧
  ∀ j, j < k → ∃ g, rows[j]? = some (patC (w35p j).1 none 0 0 (some ⟨g, 0, none⟩) 1 1) ∧ Blk w g 54 (encO w18x).toArray
theorem ops_blk {w : World} {g : Nat} (h : Blk w g 54 (encO w18x).toArray) : OpsAt w (some ⟨g, 0, none⟩) 1 [w18x] :=
  ⟨rfl, ⟨rfl, fun _ => ⟨g, 0, rfl, h.lt, fun j _ => by rw [h.cell (0 + j), Nat.zero_add]; simp⟩⟩, by simp [OpV.ok, w18x, maxLen]⟩
theorem w35_len : ∀ k, (w35l k).length = k
  | 0 => rfl
  | k + 1 => by rw [w35l, List.length_append, w35_len k]; rfl
theorem w35_get : ∀ (k j : Nat), j < k → (w35l k)[j]? = some (w35p j)
  | k + 1, j, h => by
    rw [w35l]
    rcases Nat.lt_or_ge j k with h1 | h1
    · rw [List.getElem?_append_left (by rw [w35_len]; exact h1)]; exact w35_get k j h1
    · have : j = k := by omega
      subst this
      rw [List.getElem?_append_right (by rw [w35_len]; exact Nat.le_refl _), w35_len]; simp
theorem ownW_rows {w : World} {base : Nat} {v : Value} {k : Nat} (h : OwnW w base v k) : ∃ A c, v = .slice A k c ∧ PatsAt w A k (w35l k) := by
  obtain ⟨rows, h1, h2, h3⟩ := h
  obtain ⟨A, c, rfl, _, hs⟩ := Sl.of_own h1
  refine ⟨A, c, rfl, w35_len k, rows, ⟨by rw [h2, w35_len], fun j r p e1 e2 => ?_⟩, hs⟩
  have hj : j < k := by rw [← h2]; exact (List.getElem?_eq_some_iff.1 e1).1
  obtain ⟨g, e3, hb⟩ := h3 j hj
  rw [e1] at e3
  rw [w35_get k j hj] at e2
  obtain rfl := Option.some.inj e3
  obtain rfl := Option.some.inj e2
  exact ⟨⟨none, 0, some ⟨g, 0, none⟩, 1, rfl, ⟨rfl, ⟨rfl, fun h => absurd h (by simp [w35p])⟩⟩, ops_blk hb⟩, by simp [w35p], by simp [w35p, maxLen]⟩
/-- one patch more -/
theorem ownW_push {w1 w' : World} {base g : Nat} {v v' : Value} {k : Nat} {rows : List (List Value)} (h2 : rows.length = k)
    (h3 : ∀ j, j < k → ∃ g, rows[j]? = some (patC (w35p j).1 none 0 0 (some ⟨g, 0, none⟩) 1 1) ∧ Blk w1 g 54 (encO w18x).toArray) (hg : Blk w1 g 54 (encO w18x).toArray)
    (ho : w1.ownsRow base 37 4 v k rows.flatten) (hw : w1.grownBy w' v.ownBlock) (own' : w'.ownsRow base 37 4 v' (k + 1) (rows.flatten ++ patC (w35p k).1 none 0 0 (some ⟨g, 0, none⟩) 1 1)) : OwnW w' base v' (k + 1) := by
  refine ⟨rows ++ [patC (w35p k).1 none 0 0 (some ⟨g, 0, none⟩) 1 1], by rw [List.flatten_append]; simpa using own', by simp [h2], fun j hj => ?_⟩
  rcases Nat.lt_or_ge j k with h | h
  · obtain ⟨g', e, hb⟩ := h3 j h
    exact ⟨g', by rw [List.getElem?_append_left (by omega)]; exact e, grown35 hb hw (own_apart35 ho hb (by decide))⟩
  · have : j = k := by omega
    subst this
    exact ⟨g, by rw [List.getElem?_append_right (by omega), h2]; simp, grown35 hg hw (own_apart35 ho hg (by decide))⟩
end Go.Proofs.Ytmfdggolnfoniaa

/- The chapter's example of patches given by a hint: walked. -/
namespace Go.Proofs.Ytmfdggolnfoniaa
open Go.RowKit

def pid35 : PidV := (2, 1)
def hint35 : List Nat := ofN [pid35]
theorem hint35_ok : BlOk hint35 := ofN_ok _
theorem has35 : hasN hint35 (3, 1) = false := by kernel_rfl
theorem got35 : pickL (min 8 8) hint35 (w35l 3) 3 = [w35p 0, w35p 2] := by kernel_rfl
theorem got35_one : (pickL (min 1 8) hint35 (w35l 3) 3).length = 1 := by kernel_rfl
theorem one35 {id : PidV} {g : Nat} : ∀ u ∈ patC id none 0 0 (some ⟨g, 0, none⟩) 1 1, u.oneCell' = true := by
  intro u hu
  simp only [patC, List.mem_cons, List.not_mem_nil, or_false] at hu
  rcases hu with rfl | rfl | rfl | rfl <;> rfl
set_option maxRecDepth 100000 in
set_option maxHeartbeats 4000000 in
theorem works35 (w : World) : Calls Try.prog 9 #[] w (RetB w (.bool true)) := by
  go_enter Try.func9, Try.ntmps9
  go_wp2_with fail
  go_loopw [1, 2] (fun v i wr => ∃ k : Nat, k ≤ 3 ∧ i = .int .i64 ((k : Int) + 1) ∧ Hid (OwnW wr w.heap.size v k) ∧ Hid (Below w.heap.size w wr)) (fun _ i _ => 4 - (intOf i).toNat)
  case atStart => exact ⟨0, by omega, rfl, ⟨[], World.ownsRow_nil _ _ _ _, rfl, fun j hj => by omega⟩, Below.refl _ _⟩
  case round =>
    obtain ⟨k, hk, rfl, O, B⟩ := hrel
    have hk0 : (0 : Int) ≤ (k : Int) := by omega
    by_cases hlt : k < 3
    · have hlk : (k : Int) + 1 ≤ 3 := by omega
      have hw8 : IntKind.u8.wrap ((k : Int) + 1) = (((w35p k).1.1.val : Nat) : Int) := by
        match k, hlt with
        | 0, _ => rfl
        | 1, _ => rfl
        | 2, _ => rfl
      have hm8 : ((k : Int) + 1) % 256 = (((w35p k).1.1.val : Nat) : Int) := by
        match k, hlt with
        | 0, _ => rfl
        | 1, _ => rfl
        | 2, _ => rfl
      have O1 := O.out
      obtain ⟨rows, own, h2, h3⟩ := O1
      have ho1 := Lib.hid (own_ext own (below_new wr (.cells (encO w18x).toArray 54)))
      have hg : Hid (Blk (wr.alloc (.cells (encO w18x).toArray 54)) wr.heap.size 54 (encO w18x).toArray) := Blk.new _ _ _
      have B1 := Lib.hid (B.out.trans ((below_new wr (.cells (encO w18x).toArray 54)).mono B.out.size))
      have h3 := Lib.hid h3
      go_wp2_with (first
        | (refine wpList_lit1 opSl (encO_len w18x) (by omega) (by rfl) ?_)
        | (at_builtin; refine wpList_pushOnly patSl ho1.out (patC (w35p k).1 none 0 0 (some ⟨wr.heap.size, 0, none⟩) 1 1) rfl one35 B1.out.size (by omega) (by unfold maxLen; omega) (wr.heap.size + 1) (by simp) (by rfl) (by rfl) (by rfl) ?_; intro v5 w5 own5 gr5 bel5))
      have bl := below_new (wr.alloc (.cells (encO w18x).toArray 54)) (.cells (patC (w35p k).1 none 0 0 (some ⟨wr.heap.size, 0, none⟩) 1 1).toArray 37)
      have b0 := below_new wr (.cells (encO w18x).toArray 54)
      have O5 := Lib.hid (ownW_push h2 (fun j hj => by
        obtain ⟨g, e, hb⟩ := h3.out j hj
        exact ⟨g, e, (hb.ext b0).ext bl⟩) (hg.out.ext bl) (own_ext ho1.out bl) gr5 own5)
      have B5 := Lib.hid (B1.out.trans bel5)
      clear own5 bel5 gr5 bl b0
      go_roundw
      case rel => exact ⟨k + 1, by omega, by go_num, O5.out, B5.out⟩
      case measure => simp [intOf]; omega
    · have hk : k = 3 := by omega
      subst hk
      obtain ⟨A, c, rfl, hp⟩ := ownW_rows O.out
      have HP := Lib.hid hp
      obtain ⟨b, o, x, r, rfl, hb, hx, px, R⟩ := HP.out.at_ (k := 1) (by omega)
      obtain rfl : w35p 1 = x := by simpa [w35l] using hx
      obtain ⟨⟨A1, c1, A2, c2, rfl, _, _⟩, _, _⟩ := px
      have t0 : wr.cell? ⟨b, o + 4, none⟩ = some (.int .u8 2) := R 0 _ rfl
      have t1 : wr.cell? ⟨b, o + 4 + 1, none⟩ = some (.int .u16 1) := R 1 _ rfl
      have HO := Lib.hid (fun (u : World) (A : Option Addr) (h : PidsAt u A 1 [pid35]) => of13_any [pid35] u A 1 1 h (by unfold maxLen; omega))
      have PN : PidsAt (wr.alloc (.cells #[.int .u8 2, .int .u16 1] 33)) (some ⟨wr.heap.size, 0, none⟩) 1 [pid35] := ⟨rfl, sl_fresh wr _ 33 2 1 [.int .u8 2, .int .u16 1] rfl rfl⟩
      have bp := below_new wr (.cells #[.int .u8 2, .int .u16 1] 33)
      go_wp2_with fail
      refine (HO.out _ _ PN).mono ?_
      rintro e w3 ⟨rfl, b3⟩
      have HP3 := Lib.hid ((HP.out.ext bp).ext b3)
      have B3 := Lib.hid ((B.out.trans (bp.mono B.out.size)).trans (b3.mono (Nat.le_trans B.out.size bp.size)))
      have KH : Hid (Blk ((w3.alloc (.cells #[.int .u64 0, .int .u64 0, .int .u64 0, .int .u64 0] 25)).setRow w3.heap.size (encBl (ofN [pid35])).toArray) w3.heap.size 25 (encBl (ofN [pid35])).toArray) := (Blk.new _ _ _).row _
      have BH := below_setRow ((Below.refl w3.heap.size w3).alloc (Nat.le_refl _) (.cells #[.int .u64 0, .int .u64 0, .int .u64 0, .int .u64 0] 25)) (Nat.le_refl _) (encBl (ofN [pid35])).toArray
      have HI := Lib.hid (bl_info (ofN_ok [pid35]))
      have HZ : Hid (4 = (encBl (ofN [pid35])).toArray.size) := (encBl_len (ofN_ok [pid35])).symm
      go_upto_region 7 with (refine wpList_store_row rfl 25 _ _ (by rfl) w3.heap.size (encBl (ofN [pid35])).toArray (by rfl) (by rfl) _ _ (Blk.new _ _ _) HI.out HZ.out bl_one ?_)
      have HP4 := Lib.hid (HP3.out.ext BH)
      have B4 := Lib.hid (B3.out.trans (BH.mono B3.out.size))
      generalize ((w3.alloc (.cells #[.int .u64 0, .int .u64 0, .int .u64 0, .int .u64 0] 25)).setRow w3.heap.size (encBl (ofN [pid35])).toArray) = w4 at *
      generalize w3.heap.size = gh at *
      have HK := Lib.hid (pick_any (w35l 3) (ofN [pid35]) (ofN_ok _) 8 w4 _ 3 c HP4.out (by unfold maxLen; omega))
      have G := got35
      rw [hint35] at G
      rw [G] at HK
      go_wp2_with (refine wpList_load_row rfl 25 _ (by rfl) gh (by rfl) _ _ _ _ KH.out underBl rfl HI.out ?_)
      refine HK.out.mono ?_
      rintro e w5 ⟨A5, c5, rfl, p5, b5⟩
      have P5 := Lib.hid p5
      have HP5 := Lib.hid (HP4.out.ext b5)
      have KH := Lib.hid (KH.out.ext b5)
      have B5 := Lib.hid (B4.out.trans (b5.mono B4.out.size))
      clear p5 b5 HK HP4 B4 HP3 B3 HO PN bp
      go_upto_region 8 with fail
      obtain ⟨b5, o5, x0, r0, rfl, hb5, hx0, q0, R0⟩ := P5.out.at_ (k := 0) (by simp)
      obtain rfl : w35p 0 = x0 := by simpa using hx0
      obtain ⟨⟨E1, e1, E2, e2, rfl, _, _⟩, _, _⟩ := q0
      obtain ⟨b1, o1, x1, r1, hA1, hb1, hx1, q1, R1⟩ := HP5.out.at_ (k := 0) (by omega)
      injection hA1 with hA1
      injection hA1 with z1 z2 _
      subst z1 z2
      obtain rfl : w35p 0 = x1 := by simpa [w35l] using hx1
      obtain ⟨⟨F1, f1, F2, f2, rfl, _, _⟩, _, _⟩ := q1
      obtain ⟨b2, o2, x2, r2, hA2, hb2, hx2, q2, R2⟩ := HP5.out.at_ (k := 2) (by omega)
      injection hA2 with hA2
      injection hA2 with z1 z2 _
      subst z1 z2
      obtain rfl : w35p 2 = x2 := by simpa [w35l] using hx2
      obtain ⟨⟨G1, g1, G2, g2, rfl, _, _⟩, _, _⟩ := q2
      have HB := Lib.hid (fun u => has13_any (ofN [pid35]) (ofN_ok _) (3, 1) u)
      have G3 := has35
      rw [hint35] at G3
      rw [G3] at HB
      have HC := Lib.hid (fun (u : World) (hu : Below w5.heap.size w5 u) => (pick_any (w35l 3) (ofN [pid35]) (ofN_ok _) 1 u _ 3 c (HP5.out.ext hu) (by unfold maxLen; omega)))
      have G4 := got35_one
      rw [hint35] at G4
      generalize pickL (min 1 8) (ofN [pid35]) (w35l 3) 3 = L1 at HC G4
      obtain ⟨xa, xb, xc, xd, hxs⟩ := blOk_four (ofN_ok [pid35])
      rw [hxs] at HB HC KH
      obtain ⟨ya, hya⟩ : ∃ z, z = ((xa : Nat) : Int) := ⟨_, rfl⟩
      obtain ⟨yb, hyb⟩ : ∃ z, z = ((xb : Nat) : Int) := ⟨_, rfl⟩
      obtain ⟨yc, hyc⟩ : ∃ z, z = ((xc : Nat) : Int) := ⟨_, rfl⟩
      obtain ⟨yd, hyd⟩ : ∃ z, z = ((xd : Nat) : Int) := ⟨_, rfl⟩
      have eY : (encBl [xa, xb, xc, xd]).toArray = #[.int .u64 ya, .int .u64 yb, .int .u64 yc, .int .u64 yd] := by rw [hya, hyb, hyc, hyd]; rfl
      rw [eY] at HB HC KH
      have HB : Hid (∀ u : World, Calls Try.prog 29 #[.agg #[.int .u64 ya, .int .u64 yb, .int .u64 yc, .int .u64 yd], .agg #[.int .u8 3, .int .u16 1]] u (RetB u (.bool false))) := fun u => HB.out u
      have HC : Hid (∀ u : World, Below w5.heap.size w5 u → Calls Try.prog 11 #[.slice (some ⟨b, o, none⟩) 3 c, .agg #[.int .u64 ya, .int .u64 yb, .int .u64 yc, .int .u64 yd], .int .i64 1] u (fun e w' => ∃ A c, e = .returned (.slice A 1 c) ∧ Below u.heap.size u w')) := fun u hu => (HC.out u hu).mono fun e w' ⟨A, c, h1, _, h3⟩ => ⟨A, c, by rw [h1, G4], h3⟩
      have KS : Hid (∀ w', Below w5.heap.size w5 w' → (Below w5.heap.size w5 w' ∧ w'.cell? ⟨b5, o5, none⟩ = some (.int .u8 1) ∧ w'.cell? ⟨b5, o5 + 1, none⟩ = some (.int .u16 1) ∧ w'.cell? ⟨b, o, none⟩ = some (.int .u8 1) ∧ w'.cell? ⟨b, o + 1, none⟩ = some (.int .u16 1) ∧ w'.cell? ⟨b, o + 8, none⟩ = some (.int .u8 3) ∧ w'.cell? ⟨b, o + 8 + 1, none⟩ = some (.int .u16 1) ∧ w'.cell? ⟨gh, 0, none⟩ = some (.int .u64 ya) ∧ w'.cell? ⟨gh, 1, none⟩ = some (.int .u64 yb) ∧ w'.cell? ⟨gh, 2, none⟩ = some (.int .u64 yc) ∧ w'.cell? ⟨gh, 3, none⟩ = some (.int .u64 yd))) := fun w' h =>
        ⟨h, rangeAt_below R0 h hb5 0 _ rfl, rangeAt_below R0 h hb5 1 _ rfl, rangeAt_below R1 h hb1 0 _ rfl, rangeAt_below R1 h hb1 1 _ rfl, rangeAt_below R2 h hb2 0 _ rfl, rangeAt_below R2 h hb2 1 _ rfl, (KH.out.ext h).cell 0, (KH.out.ext h).cell 1, (KH.out.ext h).cell 2, (KH.out.ext h).cell 3⟩
      have EP : ∀ u : World, (binOp .eql 33 (.agg #[.int .u8 1, .int .u16 1]) (.agg #[.int .u8 1, .int .u16 1])).run Try.prog u = .ok (.bool true) u := fun u => (eqlP (1, 1) (1, 1) u).trans (by rw [decide_eq_true rfl])
      clear hya hyb hyc hyd eY KH HP5 P5 R0 R1 R2
      go_region_held3 (fun w' => (Below w5.heap.size w5 w' ∧ w'.cell? ⟨b5, o5, none⟩ = some (.int .u8 1) ∧ w'.cell? ⟨b5, o5 + 1, none⟩ = some (.int .u16 1) ∧ w'.cell? ⟨b, o, none⟩ = some (.int .u8 1) ∧ w'.cell? ⟨b, o + 1, none⟩ = some (.int .u16 1) ∧ w'.cell? ⟨b, o + 8, none⟩ = some (.int .u8 3) ∧ w'.cell? ⟨b, o + 8 + 1, none⟩ = some (.int .u16 1) ∧ w'.cell? ⟨gh, 0, none⟩ = some (.int .u64 ya) ∧ w'.cell? ⟨gh, 1, none⟩ = some (.int .u64 yb) ∧ w'.cell? ⟨gh, 2, none⟩ = some (.int .u64 yc) ∧ w'.cell? ⟨gh, 3, none⟩ = some (.int .u64 yd)))
        (first | assumption | exact KS.out _ ((Below.refl _ _).drew) | (refine KS.out _ (ext_trans ?_ hb'); go_split_ands; assumption))
        (first
          | (go_at_call 29; refine (HB.out _).mono ?_; rintro e w8 ⟨rfl, hb'⟩)
          | (go_at_call 11; refine (HC.out _ (by first | assumption | (go_split_ands; assumption))).mono ?_; rintro e w8 ⟨D1, d1, rfl, hb'⟩))
      all_goals (go_split_ands; go_wp2; go_ret)
      all_goals (refine ⟨rfl, B5.out.trans (Below.mono ?_ B5.out.size)⟩; assumption)
end Go.Proofs.Ytmfdggolnfoniaa

/- Patches given by a hint: the whole statement, walked. -/
namespace Go.Proofs.Ytmfdggolnfoniaa
open Go.RowKit

theorem u64_of {z : Int} (h : (Lit.int .u64 z).wf = true) : 0 ≤ z ∧ z < 18446744073709551616 := by simp [Lit.wf, IntKind.min, IntKind.max, IntKind.signed, IntKind.bits] at h; omega
theorem bl_of {cs : List Value} (h : FlatOk [.int .u64, .int .u64, .int .u64, .int .u64] cs) : ∃ xs, cs = encBl xs ∧ BlOk xs := by
  match cs, h with
  | [a, b, c, d], h =>
    obtain ⟨⟨a, rfl, ha⟩, ⟨b, rfl, hb⟩, ⟨c, rfl, hc⟩, ⟨d, rfl, hd⟩, _⟩ := h
    have ha := u64_of ha
    have hb := u64_of hb
    have hc := u64_of hc
    have hd := u64_of hd
    refine ⟨[a.toNat, b.toNat, c.toNat, d.toNat], ?_, rfl, ?_⟩
    · simp only [encBl, List.map_cons, List.map_nil]
      rw [Int.toNat_of_nonneg ha.1, Int.toNat_of_nonneg hb.1, Int.toNat_of_nonneg hc.1, Int.toNat_of_nonneg hd.1]
    · intro x hx
      simp only [List.mem_cons, List.not_mem_nil, or_false] at hx
      omega
theorem digestPicks_walk (w : World) (l : List PatV) (A : Option Addr) (n c : Nat) (hm : n ≤ maxLen) (h : PatsAt w A n l) (cs : List Value) (hf : FlatOk [.int .u64, .int .u64, .int .u64, .int .u64] cs) (batch : Int) (_ : (Lit.int .i64 batch).wf = true) :
    Calls Try.prog 3 #[.slice A n c, .agg cs.toArray, .int .i64 batch] w (RetB w (.bool true)) := by
  obtain ⟨xs, rfl, hx⟩ := bl_of hf
  exact digestPicks_of works35 w l xs hx batch A n c h hm
end Go.Proofs.Ytmfdggolnfoniaa
