/- Patches made: the statement walked. -/
import Derived.Test.YtmfdggolnfoniaaPatv
import Derived.Test.YtmfdggolnfoniaaPati
import Derived.Deep.RegionHeld3
namespace Go.Proofs.Ytmfdggolnfoniaa
open Go.RowKit

theorem pid_flat : ∀ {cs : List Value}, FlatOk [.int .u8, .int .u16] cs → ∃ x : PidV, cs = encP x
  | [a, b], h => by
    obtain ⟨⟨x, rfl, hx⟩, ⟨y, rfl, hy⟩, _⟩ := h
    obtain ⟨x, rfl⟩ := fin8_of hx
    obtain ⟨y, rfl⟩ := fin16_of hy
    exact ⟨(x, y), rfl⟩
theorem zops_at {w : World} {A : Option Addr} {n c : Nat} {l : List OpV} (h : OpsAt w A n l) (hm : n ≤ maxLen) : PatAt w (patC (0, 0) none 0 0 A n c) ((0, 0), [], l) := by
  have e := h.len
  subst e
  exact ⟨⟨none, 0, A, c, rfl, ⟨rfl, rfl, fun h => absurd h (Nat.lt_irrefl 0)⟩, h⟩, Nat.zero_le _, hm⟩
theorem fewP_len {p : PatV} (h : fewP p = true) : p.2.1.length ≤ 100 ∧ p.2.2.length ≤ 260 := by
  unfold fewP at h
  simp only [Bool.and_eq_true, decide_eq_true_eq] at h
  exact ⟨h.1, h.2.1⟩
set_option maxRecDepth 100000 in
set_option maxHeartbeats 8000000 in
theorem patchMakes_walk (w : World) (id : PidV) (l : List OpV) (A : Option Addr) (n c : Nat) (hm : n ≤ maxLen) (h : OpsAt w A n l) (i : Int) (_ : (Lit.int .i64 i).wf = true) :
    Calls Try.prog 5 #[.agg (encP id).toArray, .slice A n c, .int .i64 i] w (RetB w (.bool true)) := by
  have K1 : Hid (Blk (w.alloc (.cells (encP id).toArray 33)) w.heap.size 33 (encP id).toArray) := Blk.new _ _ _
  have B0 : Hid (Below w.heap.size w (w.alloc (.cells (encP id).toArray 33))) := below_new _ _
  go_enter Try.func5, Try.ntmps5
  go_upto_region 1 with fail
  generalize (w.alloc (.cells (encP id).toArray 33)) = w2 at *
  have L := Lib.hid (h.ext B0.out)
  generalize hgi : w.heap.size = gi at K1 ⊢
  clear h hgi
  have HF := Lib.hid (few18_any _ w2 _ (zops_at (c := c) L.out hm))
  cases hf : fewP ((0, 0), [], l)
  · rw [fewN_false hf] at HF
    go_wp2_with fail
    refine HF.out.mono ?_
    rintro e w3 ⟨rfl, b3⟩
    have B3 := Lib.hid (B0.out.trans (b3.mono B0.out.size))
    clear b3 HF
    go_wp2_with fail
    refine (works18 _).mono ?_
    rintro e w4 ⟨rfl, b4⟩
    have B4 := Lib.hid (B3.out.trans (b4.mono B3.out.size))
    clear b4
    go_wp2
    go_ret
    exact ⟨rfl, B4.out⟩
  rw [fewN_true hf] at HF
  have hn : n ≤ 260 := by have h1 := (fewP_len hf).2; have h2 := L.out.len; simp only at h1; omega
  clear hf hm
  go_wp2_with fail
  refine HF.out.mono ?_
  rintro e w3 ⟨rfl, b3⟩
  have B3 := Lib.hid (B0.out.trans (b3.mono B0.out.size))
  have L := Lib.hid (L.out.ext b3)
  have K1 := Lib.hid (K1.out.ext b3)
  clear b3 HF B0
  obtain ⟨q, hq⟩ : ∃ q, makeV18 id l = q := ⟨_, rfl⟩
  obtain ⟨nn, hnn⟩ : ∃ nn, makeN18 id l = nn := ⟨_, rfl⟩
  have HM1 := Lib.hid (make18_any id l w3 A n c (by omega) L.out)
  have HM2 := Lib.hid (fun (u : World) (hu : Below w3.heap.size w3 u) => rmake18_any id l u A n c (by omega) (L.out.ext hu))
  rw [hq, hnn] at HM1 HM2
  clear hq hnn
  go_wp2_with (refine wpList_load_row rfl 33 _ (by rfl) gi (by rfl) _ _ _ _ K1.out underPid rfl infoPid ?_)
  refine HM1.out.mono ?_
  rintro e w4 ⟨cs, rfl, pa, b4⟩
  have PA := Lib.hid pa
  have K1 := Lib.hid (K1.out.ext b4)
  have C4 := Lib.hid b4
  clear pa b4 HM1
  obtain ⟨⟨A1, c1, A2, c2, rfl, _, _⟩, _, _⟩ := PA.out
  have HI1 : Hid ((Try.prog.info? 37).map (·.size) = some ((patC q.1 A1 q.2.1.length c1 A2 q.2.2.length c2).toArray : Array Value).size) := infoPat
  have KA1 : Hid (Blk ((w4.alloc (.cells #[.int .u8 0, .int .u16 0, .slice none 0 0, .slice none 0 0] 37)).setRow w4.heap.size (patC q.1 A1 q.2.1.length c1 A2 q.2.2.length c2).toArray) w4.heap.size 37 (patC q.1 A1 q.2.1.length c1 A2 q.2.2.length c2).toArray) := (Blk.new _ _ _).row _
  have BA1 : Hid (Below w4.heap.size w4 ((w4.alloc (.cells #[.int .u8 0, .int .u16 0, .slice none 0 0, .slice none 0 0] 37)).setRow w4.heap.size (patC q.1 A1 q.2.1.length c1 A2 q.2.2.length c2).toArray)) := below_setRow ((Below.refl _ _).alloc (Nat.le_refl _) _) (Nat.le_refl _) _
  go_upto_region 4 with (first
    | (refine wpList_alloced (allocPat _) ?_)
    | (refine wpList_store_row rfl 37 _ _ (by rfl) w4.heap.size (patC q.1 A1 q.2.1.length c1 A2 q.2.2.length c2).toArray (by rfl) (by rfl) _ _ (Blk.new _ _ _) HI1.out rfl patC_one ?_))
  have K1 := Lib.hid (K1.out.ext BA1.out)
  have PA := Lib.hid (PA.out.ext BA1.out)
  have C5 := Lib.hid (ext_trans C4.out BA1.out)
  generalize ((w4.alloc (.cells #[.int .u8 0, .int .u16 0, .slice none 0 0, .slice none 0 0] 37)).setRow w4.heap.size (patC q.1 A1 q.2.1.length c1 A2 q.2.2.length c2).toArray) = w5 at *
  generalize w4.heap.size = ga at *
  have HM2 := Lib.hid (HM2.out w5 C5.out)
  go_wp2_with (refine wpList_load_row rfl 33 _ (by rfl) gi (by rfl) _ _ _ _ K1.out underPid rfl infoPid ?_)
  refine HM2.out.mono ?_
  rintro e w6 ⟨cs, rfl, pb, b6⟩
  have PB := Lib.hid pb
  have K1 := Lib.hid (K1.out.ext b6)
  have PA := Lib.hid (PA.out.ext b6)
  have KA1 := Lib.hid (KA1.out.ext b6)
  have C6 := Lib.hid (ext_trans C5.out b6)
  clear pb b6 HM2 C5 BA1 C4 HI1
  obtain ⟨⟨A3, c3, A4, c4, rfl, _, _⟩, _, _⟩ := PB.out
  have HI2 : Hid ((Try.prog.info? 37).map (·.size) = some ((patC q.1 A3 q.2.1.length c3 A4 q.2.2.length c4).toArray : Array Value).size) := infoPat
  have KA2 : Hid (Blk ((w6.alloc (.cells #[.int .u8 0, .int .u16 0, .slice none 0 0, .slice none 0 0] 37)).setRow w6.heap.size (patC q.1 A3 q.2.1.length c3 A4 q.2.2.length c4).toArray) w6.heap.size 37 (patC q.1 A3 q.2.1.length c3 A4 q.2.2.length c4).toArray) := (Blk.new _ _ _).row _
  have BA2 : Hid (Below w6.heap.size w6 ((w6.alloc (.cells #[.int .u8 0, .int .u16 0, .slice none 0 0, .slice none 0 0] 37)).setRow w6.heap.size (patC q.1 A3 q.2.1.length c3 A4 q.2.2.length c4).toArray)) := below_setRow ((Below.refl _ _).alloc (Nat.le_refl _) _) (Nat.le_refl _) _
  go_upto_region 5 with (first
    | (refine wpList_alloced (allocPat _) ?_)
    | (refine wpList_store_row rfl 37 _ _ (by rfl) w6.heap.size (patC q.1 A3 q.2.1.length c3 A4 q.2.2.length c4).toArray (by rfl) (by rfl) _ _ (Blk.new _ _ _) HI2.out rfl patC_one ?_))
  have K1 := Lib.hid (K1.out.ext BA2.out)
  have PA := Lib.hid (PA.out.ext BA2.out)
  have PB := Lib.hid (PB.out.ext BA2.out)
  have KA1 := Lib.hid (KA1.out.ext BA2.out)
  have C7 := Lib.hid (ext_trans C6.out BA2.out)
  generalize ((w6.alloc (.cells #[.int .u8 0, .int .u16 0, .slice none 0 0, .slice none 0 0] 37)).setRow w6.heap.size (patC q.1 A3 q.2.1.length c3 A4 q.2.2.length c4).toArray) = w7 at *
  generalize w6.heap.size = gb at *
  have B7 := Lib.hid (B3.out.trans (C7.out.mono B3.out.size))
  have L := Lib.hid (L.out.ext C7.out)
  clear C6 C7 BA2 HI2 B3
  have hgi : gi < w7.heap.size := K1.out.lt
  have hga : ga < w7.heap.size := KA1.out.lt
  have hgb : gb < w7.heap.size := KA2.out.lt
  have KS : Hid (∀ w', Below w7.heap.size w7 w' → (Below w7.heap.size w7 w' ∧ w'.cell? ⟨gi, 0, none⟩ = some (.int .u8 ((id.1.val : Nat) : Int)) ∧ w'.cell? ⟨gi, 1, none⟩ = some (.int .u16 ((id.2.val : Nat) : Int)) ∧ w'.cell? ⟨ga, 0, none⟩ = some (.int .u8 ((q.1.1.val : Nat) : Int)) ∧ w'.cell? ⟨ga, 1, none⟩ = some (.int .u16 ((q.1.2.val : Nat) : Int)) ∧ w'.cell? ⟨ga, 2, none⟩ = some (.slice A1 q.2.1.length c1) ∧ w'.cell? ⟨ga, 3, none⟩ = some (.slice A2 q.2.2.length c2) ∧ w'.cell? ⟨gb, 0, none⟩ = some (.int .u8 ((q.1.1.val : Nat) : Int)) ∧ w'.cell? ⟨gb, 1, none⟩ = some (.int .u16 ((q.1.2.val : Nat) : Int)) ∧ w'.cell? ⟨gb, 2, none⟩ = some (.slice A3 q.2.1.length c3) ∧ w'.cell? ⟨gb, 3, none⟩ = some (.slice A4 q.2.2.length c4))) := fun w' h =>
    ⟨h, (K1.out.ext h).cell 0, (K1.out.ext h).cell 1, (KA1.out.ext h).cell 0, (KA1.out.ext h).cell 1, (KA1.out.ext h).cell 2, (KA1.out.ext h).cell 3, (KA2.out.ext h).cell 0, (KA2.out.ext h).cell 1, (KA2.out.ext h).cell 2, (KA2.out.ext h).cell 3⟩
  have HS := Lib.hid (fun (u : World) (hu : Below w7.heap.size w7 u) => rpsame q q u _ _ (PA.out.ext hu) (PB.out.ext hu))
  rw [decide_eq_true (rfl : q = q)] at HS
  have HD : Hid (∀ u : World, Below w7.heap.size w7 u → Calls Try.prog 21 #[.agg #[.int .u8 ((id.1.val : Nat) : Int), .int .u16 ((id.2.val : Nat) : Int)], .slice A n c] u (OwnedRet u 33 2 (depsV id l).length ((depsV id l).flatMap encP))) := fun u hu => depsP id l u A n c (by omega) (L.out.ext hu)
  have HE : Hid (∀ u : World, Below w7.heap.size w7 u → Calls Try.prog 22 #[.agg #[.int .u8 ((id.1.val : Nat) : Int), .int .u16 ((id.2.val : Nat) : Int)], .slice A n c] u (RetSl u 2 (depsV id l).length ((depsV id l).flatMap encP))) := fun u hu => rdepsP id l u A n c (by omega) (L.out.ext hu)
  have HP := Lib.hid (fun (u : World) (B1 B2 : Option Addr) (d1 d2 : Nat) (h1 : Sl u u.heap.size 2 B1 (depsV id l).length ((depsV id l).flatMap encP)) (h2 : Sl u u.heap.size 2 B2 (depsV id l).length ((depsV id l).flatMap encP)) => rsameP (depsV id l) (depsV id l) u B1 B2 (depsV id l).length (depsV id l).length d1 d2 ⟨rfl, h1⟩ ⟨rfl, h2⟩ (by have h1 := depsV_le id l; have h2 := L.out.len; unfold maxLen; omega))
  rw [decide_eq_true (rfl : depsV id l = depsV id l)] at HP
  have HV : Hid (∀ u : World, Calls Try.prog 23 #[.agg #[.int .u8 ((id.1.val : Nat) : Int), .int .u16 ((id.2.val : Nat) : Int)], .int .i64 i] u (RetB u (.agg (encV (vidOf id i)).toArray))) := fun u => vid18_any id i u
  have HW : Hid (∀ u : World, Calls Try.prog 24 #[.agg #[.int .u8 ((id.1.val : Nat) : Int), .int .u16 ((id.2.val : Nat) : Int)], .int .i64 i] u (RetB u (.agg (encV (vidOf id i)).toArray))) := fun u => rvid18_any id i u
  have EV : ∀ u : World, (binOp .eql 49 (.agg (encV (vidOf id i)).toArray) (.agg (encV (vidOf id i)).toArray)).run Try.prog u = .ok (.bool true) u := fun u => (eqlV _ _ u).trans (by rw [decide_eq_true rfl])
  have hnn : (nn == nn) = true := beq_self_eq_true nn
  clear K1 KA1 KA2 PA PB L
  generalize encV (vidOf id i) = ev at *
  generalize depsV id l = dv at *
  go_region_held3 (fun w' => (Below w7.heap.size w7 w' ∧ w'.cell? ⟨gi, 0, none⟩ = some (.int .u8 ((id.1.val : Nat) : Int)) ∧ w'.cell? ⟨gi, 1, none⟩ = some (.int .u16 ((id.2.val : Nat) : Int)) ∧ w'.cell? ⟨ga, 0, none⟩ = some (.int .u8 ((q.1.1.val : Nat) : Int)) ∧ w'.cell? ⟨ga, 1, none⟩ = some (.int .u16 ((q.1.2.val : Nat) : Int)) ∧ w'.cell? ⟨ga, 2, none⟩ = some (.slice A1 q.2.1.length c1) ∧ w'.cell? ⟨ga, 3, none⟩ = some (.slice A2 q.2.2.length c2) ∧ w'.cell? ⟨gb, 0, none⟩ = some (.int .u8 ((q.1.1.val : Nat) : Int)) ∧ w'.cell? ⟨gb, 1, none⟩ = some (.int .u16 ((q.1.2.val : Nat) : Int)) ∧ w'.cell? ⟨gb, 2, none⟩ = some (.slice A3 q.2.1.length c3) ∧ w'.cell? ⟨gb, 3, none⟩ = some (.slice A4 q.2.2.length c4)))
    (first | assumption | exact KS.out _ ((Below.refl _ _).drew) | (refine KS.out _ (ext_trans ?_ hb); go_split_ands; assumption))
    (first
      | (go_at_call 19; refine (HS.out _ (by first | assumption | (go_split_ands; assumption))).mono ?_; rintro e w8 ⟨rfl, hb⟩)
      | (go_at_call 21; refine (HD.out _ (by first | assumption | (go_split_ands; assumption))).mono ?_; rintro e w8 ⟨v1, rfl, ho1, hb⟩; obtain ⟨D1, d1, rfl, hc1, hs1⟩ := Sl.of_own ho1)
      | (go_at_call 22; refine (HE.out _ (by first | assumption | (go_split_ands; assumption))).mono ?_; rintro e w8 ⟨D2, d2, rfl, hc2, hs2, hb⟩; replace hs1 := (hs1.below hb (Nat.le_refl _)).more hb.size)
      | (go_at_call 20; refine (HP.out _ _ _ _ _ hs1 hs2).mono ?_; rintro e w8 ⟨rfl, hn8⟩; have hb := ret_drewn hn8)
      | (go_at_call 23; refine (HV.out _).mono ?_; rintro e w8 ⟨rfl, hb⟩)
      | (go_at_call 24; refine (HW.out _).mono ?_; rintro e w8 ⟨rfl, hb⟩)
      | (go_at_call 14; refine (works18 _).mono ?_; rintro e w8 ⟨rfl, hb⟩))
  all_goals (go_split_ands; go_wp2; go_ret)
  all_goals (refine ⟨rfl, B7.out.trans (Below.mono ?_ B7.out.size)⟩; assumption)
end Go.Proofs.Ytmfdggolnfoniaa
