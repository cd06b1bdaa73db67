/- Whether an operation may stand in a patch: the document's, walked. -/
import Derived.Test.YtihggkmjalofiaaDoorPato
namespace Go.Proofs.YtihggkmjalofiaaDoor
open Go.RowKit

theorem eqlO_any (a1 a2 a3 a4 a5 a6 a7 b1 b2 b3 b4 b5 b6 b7 : Int) (s t : ByteArray) (w : World) : (binOp .eql 41 (.agg #[.int .u8 a1, .int .u8 a2, .int .u16 a3, .int .u8 a4, .int .u8 a5, .int .u16 a6, .int .u8 a7, .string s]) (.agg #[.int .u8 b1, .int .u8 b2, .int .u16 b3, .int .u8 b4, .int .u8 b5, .int .u16 b6, .int .u8 b7, .string t])).run Tryd.prog w = .ok (.bool (decide (a1 = b1 ∧ a2 = b2 ∧ a3 = b3 ∧ a4 = b4 ∧ a5 = b5 ∧ a6 = b6 ∧ a7 = b7 ∧ s.toList = t.toList))) w := by
  simp [go_sem]
  by_cases h1 : a1 = b1
  · by_cases h2 : a2 = b2
    · by_cases h3 : a3 = b3
      · by_cases h4 : a4 = b4
        · by_cases h5 : a5 = b5
          · by_cases h6 : a6 = b6
            · by_cases h7 : a7 = b7
              · by_cases h8 : s.toList = t.toList <;> simp [h1, h2, h3, h4, h5, h6, h7, h8]
              · simp [h7]
            · simp [h6]
          · simp [h5]
        · simp [h4]
      · simp [h3]
    · simp [h2]
  · simp [h1]
theorem eqlO (x y : OpV) (w : World) : (binOp .eql 41 (.agg (encO x).toArray) (.agg (encO y).toArray)).run Tryd.prog w = .ok (.bool (decide (x = y))) w := by
  rw [show decide (x = y) = _ from (decide_eq_decide.2 (opV_iff x y)).symm]
  exact eqlO_any _ _ _ _ _ _ _ _ _ _ _ _ _ _ _ _ w
theorem allocOp (w : World) : (Instr.alloc 41 true (.tuple #[])).run Tryd.prog w = .ok (.pointer (some ⟨w.heap.size, 0, none⟩)) (w.alloc (.cells #[.int .u8 0, .int .u8 0, .int .u16 0, .int .u8 0, .int .u8 0, .int .u16 0, .int .u8 0, .string ByteArray.empty] 41)) := by kernel_rfl
theorem blk_off {w : World} {g : Nat} {t : TypeId} {cs : Array Value} (h : Blk w g t cs) {n : Nat} {l : List Value} (hl : ∀ j v, l[j]? = some v → cs[n + j]? = some v) : w.rangeAt g n l := fun j v hj => by
  rw [h.cell]
  exact hl j v hj
theorem op_at1 {w : World} {g : Nat} {t : TypeId} {o : OpV} (h : Blk w g t (encO o).toArray) : w.rangeAt g 1 (encV o.2.1) := blk_off h fun j v hj => by
  match j, hj with
  | 0, hj => exact hj
  | 1, hj => exact hj
  | 2, hj => exact hj
  | j + 3, hj => simp [encV] at hj
theorem notLater_snoc {vs : List VidV} {id : PidV} {k : Nat} {x : VidV} (h : vs[k]? = some x) (hk : (vs.take k).any (isLater id) = false) (hx : isLater id x = false) : (vs.take (k + 1)).any (isLater id) = false := anyV_false h hk hx
theorem mem_snoc {l : List OpV} {k : Nat} {x o : OpV} (h : l[k]? = some x) : (o ∈ l.take (k + 1)) ↔ (o ∈ l.take k ∨ x = o) := by
  rw [take_snoc' h, List.mem_append, List.mem_singleton]
  exact or_congr Iff.rfl ⟨fun e => e.symm, fun e => e.symm⟩
theorem mem_of_at {l : List OpV} {i k : Nat} {x : OpV} (h : l[k]? = some x) (hk : k < i) : x ∈ l.take i := by
  have : (l.take i)[k]? = some x := by rw [List.getElem?_take_of_lt hk]; exact h
  exact List.mem_of_getElem? this
theorem kind_eq (o : OpV) (c : Nat) : ((((o.1.val : Nat) : Int) == (c : Int)) = decide (o.1.val = c)) := by
  by_cases h : o.1.val = c
  · rw [decide_eq_true h, h]; exact beq_self_eq_true _
  · rw [decide_eq_false h]; exact beq_eq_false_iff_ne.2 (by omega)

set_option maxRecDepth 100000 in
set_option maxHeartbeats 8000000 in
theorem one18_any (p : PatV) (i : Nat) (o : OpV) (w : World) (cs : List Value) (hp : PatAt w cs p) (hi : p.2.2[i]? = some o) :
    Calls Tryd.prog 31 #[.agg cs.toArray, .int .i64 i] w (RetB w (.bool (oneR p i o))) := by
  have HPAT := Lib.hid hp
  have hlt : i < p.2.2.length := (List.getElem?_eq_some_iff.1 hi).1
  obtain ⟨⟨A, c, A', c', rfl, P1, O1⟩, m1, m2⟩ := hp
  have hm2 := m2
  unfold maxLen at hm2
  have i0 : (0 : Int) ≤ (i : Int) := by omega
  have i1 : (i : Int) < (p.2.2.length : Int) := by omega
  have K1 : Hid (Blk (w.alloc (.cells (patC p.1 A p.2.1.length c A' p.2.2.length c').toArray 33)) w.heap.size 33 (patC p.1 A p.2.1.length c A' p.2.2.length c').toArray) := Blk.new _ _ _
  have B0 : Hid (Below w.heap.size w (w.alloc (.cells (patC p.1 A p.2.1.length c A' p.2.2.length c').toArray 33))) := below_new _ _
  clear P1
  go_enter Tryd.func31, Tryd.ntmps31
  go_upto_region 1 with fail
  generalize hw2 : (w.alloc (.cells (patC p.1 A p.2.1.length c A' p.2.2.length c').toArray 33)) = w2 at *
  clear hw2
  have PA := Lib.hid (HPAT.out.ext B0.out)
  have O1 := Lib.hid (O1.ext B0.out)
  generalize hg1 : w.heap.size = g1 at K1 ⊢
  clear HPAT hg1
  obtain ⟨b, off, x, rfl, hb, hx, R3, hok⟩ := O1.out.at_ hlt
  obtain rfl : o = x := Option.some.inj (hi.symm.trans hx)
  have R3 := Lib.hid R3
  have a3 : w2.cell? ⟨g1, 3, none⟩ = some (.slice (some ⟨b, off, none⟩) p.2.2.length c') := K1.out.cell 3
  have HI := Lib.hid hi
  have HS2 : Hid ((Tryd.prog.info? 41).map (·.size) = some (encO o).toArray.size) := infoOp
  have K2 : Hid (Blk ((w2.alloc (.cells #[.int .u8 0, .int .u8 0, .int .u16 0, .int .u8 0, .int .u8 0, .int .u16 0, .int .u8 0, .string ByteArray.empty] 41)).setRow w2.heap.size (encO o).toArray) w2.heap.size 41 (encO o).toArray) := (Blk.new _ _ _).row _
  have B2 : Hid (Below w2.heap.size w2 ((w2.alloc (.cells #[.int .u8 0, .int .u8 0, .int .u16 0, .int .u8 0, .int .u8 0, .int .u16 0, .int .u8 0, .string ByteArray.empty] 41)).setRow w2.heap.size (encO o).toArray)) := below_setRow ((Below.refl _ _).alloc (Nat.le_refl _) _) (Nat.le_refl _) _
  clear hx hi
  go_upto_region 2 with (first
    | (refine wpList_load_mid rfl 41 _ (by rfl) b (off + i * 8) (by rfl) _ _ R3.out underOp rfl infoOp ?_)
    | (refine wpList_alloced (allocOp _) ?_)
    | (refine wpList_store_row rfl 41 _ _ (by rfl) w2.heap.size (encO o).toArray (by rfl) (by rfl) _ _ (Blk.new _ _ _) HS2.out rfl (all_oneCell_toArray (encO_one o)) ?_))
  generalize hw3 : ((w2.alloc (.cells #[.int .u8 0, .int .u8 0, .int .u16 0, .int .u8 0, .int .u8 0, .int .u16 0, .int .u8 0, .string ByteArray.empty] 41)).setRow w2.heap.size (encO o).toArray) = w3 at *
  clear hw3 a3 R3
  have K1 := Lib.hid (K1.out.ext B2.out)
  have PA := Lib.hid (PA.out.ext B2.out)
  have O1 := Lib.hid (O1.out.ext B2.out)
  have B3 := Lib.hid (B0.out.trans (B2.out.mono B0.out.size))
  clear B0 B2 HS2
  generalize hg2 : w2.heap.size = g2 at *
  clear hg2
  have RP := Lib.hid (patC_pid K1.out)
  have HG := Lib.hid (rgoodN p.1 (i : Int) o hok w3)
  have F : Hid (oneR p i o = (goodO p.1 i o && (!((refsO o).any (isLater p.1)) && ((!decide (4 ≤ o.1.val) || !decide (o ∈ p.2.2.take i)) && tailV p o)))) := rfl
  have TV : Hid (tailV p o = if o.1.val = 2 ∨ o.1.val = 3 then ownV p o.2.1 1 else if o.1.val = 4 then ownV p o.2.1 3 && (ownV p o.2.2.1 3 && (decide (o.2.1.1 ≠ p.1) || (decide (o.2.2.1.1 ≠ p.1) || sameAt p o))) else true) := rfl
  have HGR := Lib.hid (fun h : goodO p.1 (i : Int) o = true => goodO_refs h)
  go_wp2_with (first
    | (refine wpList_load_mid rfl 29 _ (by rfl) g1 0 (by rfl) _ _ RP.out underPid rfl infoPid ?_)
    | (refine wpList_load_row rfl 41 _ (by rfl) g2 (by rfl) _ _ _ _ K2.out underOp rfl infoOp ?_))
  refine HG.out.mono ?_
  rintro e w4 ⟨rfl, b4⟩
  have K1 := Lib.hid (K1.out.ext b4)
  have K2 := Lib.hid (K2.out.ext b4)
  have PA := Lib.hid (PA.out.ext b4)
  have O1 := Lib.hid (O1.out.ext b4)
  have B4 := Lib.hid (B3.out.trans (b4.mono B3.out.size))
  clear b4 HG B3 RP
  cases hg : goodO p.1 (i : Int) o
  · rw [hg] at F
    clear HGR hg TV
    go_wp2
    go_ret
    exact ⟨ret_bool (by rw [F.out]; rfl), B4.out⟩
  have HGR := Lib.hid (HGR.out hg)
  rw [hg] at F
  clear hg
  go_wp2_with (refine wpList_load_row rfl 41 _ (by rfl) g2 (by rfl) _ _ _ _ K2.out underOp rfl infoOp ?_)
  refine (rrefsN o _).mono ?_
  rintro e w5 ⟨A5, c5, rfl, hc5, V, b5⟩
  have V := Lib.hid V
  have K1 := Lib.hid (K1.out.ext b5)
  have K2 := Lib.hid (K2.out.ext b5)
  have PA := Lib.hid (PA.out.ext b5)
  have O1 := Lib.hid (O1.out.ext b5)
  have B5 := Lib.hid (B4.out.trans (b5.mono B4.out.size))
  clear b5 B4
  have hrl := refsO_le o
  have HV : Hid (∀ v, v ∈ refsO o → v ∈ refsO o) := fun v h => h
  obtain ⟨vs, hvs⟩ : ∃ vs, refsO o = vs := ⟨_, rfl⟩
  rw [hvs] at V F hrl ⊢
  have hvs := Lib.hid hvs
  have a0 : w5.cell? ⟨g1, 0, none⟩ = some (.int .u8 ((p.1.1.val : Nat) : Int)) := K1.out.cell 0
  have a1 : w5.cell? ⟨g1, 1, none⟩ = some (.int .u16 ((p.1.2.val : Nat) : Int)) := K1.out.cell 1
  have a3 : w5.cell? ⟨g1, 3, none⟩ = some (.slice (some ⟨b, off, none⟩) p.2.2.length c') := K1.out.cell 3
  have e0 : w5.cell? ⟨g2, 0, none⟩ = some (.int .u8 ((o.1.val : Nat) : Int)) := K2.out.cell 0
  have e1 : w5.cell? ⟨g2, 1, none⟩ = some (.int .u8 ((o.2.1.1.1.val : Nat) : Int)) := K2.out.cell 1
  have e2 : w5.cell? ⟨g2, 2, none⟩ = some (.int .u16 ((o.2.1.1.2.val : Nat) : Int)) := K2.out.cell 2
  have e3 : w5.cell? ⟨g2, 3, none⟩ = some (.int .u8 ((o.2.1.2.val : Nat) : Int)) := K2.out.cell 3
  have e4 : w5.cell? ⟨g2, 4, none⟩ = some (.int .u8 ((o.2.2.1.1.1.val : Nat) : Int)) := K2.out.cell 4
  have e5 : w5.cell? ⟨g2, 5, none⟩ = some (.int .u16 ((o.2.2.1.1.2.val : Nat) : Int)) := K2.out.cell 5
  have e6 : w5.cell? ⟨g2, 6, none⟩ = some (.int .u8 ((o.2.2.1.2.val : Nat) : Int)) := K2.out.cell 6
  go_wp2_with fail
  go_loopw [7] (fun i wr => ∃ k : Nat, k ≤ vs.length ∧ i = .int .i64 k ∧ Hid ((vs.take k).any (isLater p.1) = false) ∧ ∃ u, wr = w5.drewN u) (fun i _ => vs.length - (intOf i).toNat)
  case atStart => exact ⟨0, by omega, rfl, rfl, 0, rfl⟩
  case round =>
    obtain ⟨k, hk, rfl, T, u, rfl⟩ := hrel
    have hk0 : (0 : Int) ≤ (k : Int) := by omega
    by_cases hlk : k < vs.length
    · have hlk2 : (k : Int) < (vs.length : Int) := by omega
      obtain ⟨b', off', y, rfl, hb', hy, R0⟩ := V.out.at_ hlk
      have t0 : w5.cell? ⟨b', off' + k * 3, none⟩ = some (.int .u8 ((y.1.1.val : Nat) : Int)) := R0 0 _ rfl
      have t1 : w5.cell? ⟨b', off' + k * 3 + 1, none⟩ = some (.int .u16 ((y.1.2.val : Nat) : Int)) := R0 1 _ rfl
      have IL : Hid (isLater p.1 y = (decide (((y.1.1.val : Nat) : Int) = ((p.1.1.val : Nat) : Int)) && decide (((p.1.2.val : Nat) : Int) < ((y.1.2.val : Nat) : Int)))) := rfl
      have N1 := Lib.hid (notLater_snoc (id := p.1) hy T.out)
      have N2 := Lib.hid (anyV_true (f := isLater p.1) hy)
      clear R0 hy
      generalize ((p.1.1.val : Nat) : Int) = pa at a0 IL
      generalize ((p.1.2.val : Nat) : Int) = ps at a1 IL
      generalize ((y.1.1.val : Nat) : Int) = va at t0 IL
      generalize ((y.1.2.val : Nat) : Int) = vz at t1 IL
      clear e0 e1 e2 e3 e4 e5 e6 a3
      by_cases h1 : va = pa
      · have d1 : (va == pa) = true := beq_iff_eq.2 h1
        by_cases h2 : ps < vz
        · have N := Lib.hid (N2.out (by rw [IL.out, decide_eq_true h1, decide_eq_true h2]; rfl))
          have d2 : decide (ps < vz) = true := decide_eq_true h2
          clear h1 h2 N1 N2 IL
          go_wp2_with fail
          go_quiet (fail)
          go_wp2
          go_ret
          exact ⟨ret_bool (by rw [F.out, N.out]; rfl), below_drewN (below_drewN B5.out _) _⟩
        · have N := Lib.hid (N1.out (by rw [IL.out, decide_eq_true h1, decide_eq_false h2]; rfl))
          have d2 : decide (ps < vz) = false := decide_eq_false h2
          clear h1 h2 N1 N2 IL
          go_wp2_with fail
          go_quiet (fail)
          go_wp2_with fail
          go_roundw
          case rel => exact ⟨k + 1, by omega, by go_num, N.out, _, rfl⟩
          case measure => simp [intOf]; omega
      · have d1 : (va == pa) = false := beq_eq_false_iff_ne.2 h1
        have N := Lib.hid (N1.out (by rw [IL.out, decide_eq_false h1]; rfl))
        clear h1 N1 N2 IL
        go_wp2_with fail
        go_quiet (fail)
        go_wp2_with fail
        go_roundw
        case rel => exact ⟨k + 1, by omega, by go_num, N.out, _, rfl⟩
        case measure => simp [intOf]; omega
    · rw [List.take_of_length_le (by omega)] at T
      have F : Hid (oneR p i o = ((!decide (4 ≤ o.1.val) || !decide (o ∈ p.2.2.take i)) && tailV p o)) := by rw [Hid, F.out, T.out]; rfl
      have hlk2 : ¬ ((k : Int) < (vs.length : Int)) := by omega
      have K1 := Lib.hid (K1.out.drewN u)
      have K2 := Lib.hid (K2.out.drewN u)
      have O1 := Lib.hid (O1.out.drewN u)
      have PA := Lib.hid (PA.out.ext (below_drewN (Below.refl _ _) u))
      have B5 := Lib.hid (below_drewN B5.out u)
      replace a0 : (w5.drewN u).cell? _ = _ := a0
      replace a1 : (w5.drewN u).cell? _ = _ := a1
      replace a3 : (w5.drewN u).cell? _ = _ := a3
      replace e0 : (w5.drewN u).cell? _ = _ := e0
      replace e1 : (w5.drewN u).cell? _ = _ := e1
      replace e2 : (w5.drewN u).cell? _ = _ := e2
      replace e3 : (w5.drewN u).cell? _ = _ := e3
      replace e4 : (w5.drewN u).cell? _ = _ := e4
      replace e5 : (w5.drewN u).cell? _ = _ := e5
      replace e6 : (w5.drewN u).cell? _ = _ := e6
      clear T V
      generalize w5.drewN u = w6 at *
      go_wp2_with fail
      by_cases k4 : 4 ≤ o.1.val
      · have d5 : decide ((4 : Int) ≤ ((o.1.val : Nat) : Int)) = true := decide_eq_true (by omega)
        go_loopw [8] (fun j wr => ∃ k : Nat, k ≤ i ∧ j = .int .i64 k ∧ Hid (o ∉ p.2.2.take k) ∧ ∃ u, wr = w6.drewN u) (fun j _ => i - (intOf j).toNat)
        case atStart => exact ⟨0, by omega, rfl, by simp [Hid], 0, rfl⟩
        case round =>
          obtain ⟨k, hk, rfl, T, u, rfl⟩ := hrel
          have hk0 : (0 : Int) ≤ (k : Int) := by omega
          by_cases hlk : k < i
          · have hlk2 : (k : Int) < (i : Int) := by omega
            have hlk3 : (k : Int) < (p.2.2.length : Int) := by omega
            obtain ⟨bb, oo, x, hA, hbb, hx, R4, _⟩ := O1.out.at_ (Nat.lt_trans hlk hlt)
            injection hA with hA
            injection hA with hA1 hA2 _
            subst hA1 hA2
            have R4 := Lib.hid R4
            have R5 := Lib.hid (op_at K2.out)
            have EQ := fun u => eqlO x o u
            by_cases e : x = o
            · have N : Hid (decide (o ∈ p.2.2.take i) = true) := decide_eq_true (by rw [← e]; exact mem_of_at hx hlk)
              have EQ' : ∀ u : World, (binOp .eql 41 (.agg (encO x).toArray) (.agg (encO o).toArray)).run Tryd.prog u = .ok (.bool true) u := fun u => by rw [EQ, decide_eq_true e]
              have F : Hid (false = oneR p i o) := by rw [Hid, F.out, N.out, decide_eq_true k4]; rfl
              clear EQ hx T e N
              go_wp2_with fail
              refine wp_region_quiet_lit (by kernel_rfl) (by kernel_rfl) ?_
              repeat (first | (refine wpQuiet_load_mid (rangeAt_drewN2 R4.out) underOp rfl infoOp rfl rfl ?_; simp only [List.set_cons_succ, List.set_cons_zero]) | (refine wpQuiet_load_mid (rangeAt_drewN2 R5.out) underOp rfl infoOp rfl rfl ?_; simp only [List.set_cons_succ, List.set_cons_zero]) | go_big_quiet_step (fail))
              refine wpQuiet_nil ?_
              rintro _ ⟨nq, rfl⟩
              go_wp2
              go_ret
              exact ⟨ret_bool F.out, below_drewN (below_drewN B5.out _) _⟩
            · have N : Hid (o ∉ p.2.2.take (k + 1)) := fun h => ((mem_snoc hx).1 h).elim T.out e
              have EQ' : ∀ u : World, (binOp .eql 41 (.agg (encO x).toArray) (.agg (encO o).toArray)).run Tryd.prog u = .ok (.bool false) u := fun u => by rw [EQ, decide_eq_false e]
              clear EQ hx T e
              go_wp2_with fail
              refine wp_region_quiet_lit (by kernel_rfl) (by kernel_rfl) ?_
              repeat (first | (refine wpQuiet_load_mid (rangeAt_drewN2 R4.out) underOp rfl infoOp rfl rfl ?_; simp only [List.set_cons_succ, List.set_cons_zero]) | (refine wpQuiet_load_mid (rangeAt_drewN2 R5.out) underOp rfl infoOp rfl rfl ?_; simp only [List.set_cons_succ, List.set_cons_zero]) | go_big_quiet_step (fail))
              refine wpQuiet_nil ?_
              rintro _ ⟨nq, rfl⟩
              go_wp2_with fail
              go_roundw
              case rel => exact ⟨k + 1, by omega, by go_num, N.out, _, rfl⟩
              case measure => simp [intOf]; omega
          · have hlk2 : ¬ ((k : Int) < (i : Int)) := by omega
            have hki : k = i := by omega
            subst hki
            have F : Hid (oneR p k o = tailV p o) := by rw [Hid, F.out, decide_eq_false T.out]; simp
            clear HV V hvs
            have K1 := Lib.hid (K1.out.drewN u)
            have K2 := Lib.hid (K2.out.drewN u)
            have O1 := Lib.hid (O1.out.drewN u)
            have PA := Lib.hid (PA.out.ext (below_drewN (Below.refl _ _) u))
            have B5 := Lib.hid (below_drewN B5.out u)
            replace a0 : (w6.drewN u).cell? _ = _ := a0
            replace a1 : (w6.drewN u).cell? _ = _ := a1
            replace a3 : (w6.drewN u).cell? _ = _ := a3
            replace e0 : (w6.drewN u).cell? _ = _ := e0
            replace e1 : (w6.drewN u).cell? _ = _ := e1
            replace e2 : (w6.drewN u).cell? _ = _ := e2
            replace e3 : (w6.drewN u).cell? _ = _ := e3
            replace e4 : (w6.drewN u).cell? _ = _ := e4
            replace e5 : (w6.drewN u).cell? _ = _ := e5
            replace e6 : (w6.drewN u).cell? _ = _ := e6
            generalize w6.drewN u = w7 at *
            by_cases c4 : o.1.val = 4
            · have d4' : True := trivial
              have d4 : (((o.1.val : Nat) : Int) == 4) = true := by have := kind_eq o 4; rw [decide_eq_true c4] at this; exact this
              have d2 : (((o.1.val : Nat) : Int) == 2) = false := by have := kind_eq o 2; rw [decide_eq_false (by omega)] at this; exact this
              have d3 : (((o.1.val : Nat) : Int) == 3) = false := by have := kind_eq o 3; rw [decide_eq_false (by omega)] at this; exact this
              rw [if_neg (by omega), if_pos c4] at TV
              have hv4 : refsO o = [o.2.1, o.2.2.1] := by unfold refsO; rw [if_neg (by omega), if_pos c4]
              have l1 := Lib.hid (HGR.out o.2.1 (by rw [hv4]; simp))
              have l2 := Lib.hid (HGR.out o.2.2.1 (by rw [hv4]; simp))
              have RA := Lib.hid (op_at1 K2.out)
              have HC1 := Lib.hid (own18_any p o.2.1 3 w7 _ PA.out)
              have HC2 := Lib.hid (fun W (hW : Below w7.heap.size w7 W) => own18_any p o.2.2.1 3 W _ (PA.out.ext hW))
              generalize ownV p o.2.1 3 = r1 at *
              generalize ownV p o.2.2.1 3 = r2 at *
              clear hv4 HGR
              clear e1 e2 e3 e4 e5 e6 a0 a1 a3
              cases r1
              · have F : Hid (false = oneR p k o) := by rw [Hid, F.out, TV.out]; rfl
                clear d4' c4
                go_wp2_with (first
                  | (refine wpList_load_row rfl 33 _ (by rfl) g1 (by rfl) _ _ _ _ K1.out underPat rfl infoPat ?_)
                  | (refine wpList_load_mid rfl 39 _ (by rfl) g2 1 (by rfl) _ _ RA.out underVid rfl infoVid ?_))
                refine HC1.out.mono ?_
                rintro e w8 ⟨rfl, b8⟩
                have B8 := Lib.hid (B5.out.trans (b8.mono B5.out.size))
                clear b8 HC1 HC2 l1 l2
                go_wp2
                go_ret
                exact ⟨ret_bool F.out, B8.out⟩
              go_wp2_with (first
                | (refine wpList_load_row rfl 33 _ (by rfl) g1 (by rfl) _ _ _ _ K1.out underPat rfl infoPat ?_)
                | (refine wpList_load_mid rfl 39 _ (by rfl) g2 1 (by rfl) _ _ RA.out underVid rfl infoVid ?_))
              refine HC1.out.mono ?_
              rintro e w8 ⟨rfl, b8⟩
              have B8 := Lib.hid (B5.out.trans (b8.mono B5.out.size))
              have K1 := Lib.hid (K1.out.ext b8)
              have K2 := Lib.hid (K2.out.ext b8)
              have O1 := Lib.hid (O1.out.ext b8)
              have a0 : w8.cell? ⟨g1, 0, none⟩ = some (.int .u8 ((p.1.1.val : Nat) : Int)) := K1.out.cell 0
              have a1 : w8.cell? ⟨g1, 1, none⟩ = some (.int .u16 ((p.1.2.val : Nat) : Int)) := K1.out.cell 1
              have a2 : w8.cell? ⟨g1, 2, none⟩ = some (.slice A p.2.1.length c) := K1.out.cell 2
              have a3 : w8.cell? ⟨g1, 3, none⟩ = some (.slice (some ⟨b, off, none⟩) p.2.2.length c') := K1.out.cell 3
              have e4 : w8.cell? ⟨g2, 4, none⟩ = some (.int .u8 ((o.2.2.1.1.1.val : Nat) : Int)) := K2.out.cell 4
              have e5 : w8.cell? ⟨g2, 5, none⟩ = some (.int .u16 ((o.2.2.1.1.2.val : Nat) : Int)) := K2.out.cell 5
              have e6 : w8.cell? ⟨g2, 6, none⟩ = some (.int .u8 ((o.2.2.1.2.val : Nat) : Int)) := K2.out.cell 6
              have HC2 := Lib.hid (HC2.out w8 b8)
              clear b8 HC1 RA B5 PA
              cases r2
              · have F : Hid (false = oneR p k o) := by rw [Hid, F.out, TV.out]; rfl
                go_wp2_with fail
                refine HC2.out.mono ?_
                rintro e w9 ⟨rfl, b9⟩
                have B9 := Lib.hid (B8.out.trans (b9.mono B8.out.size))
                clear b9 HC2 l1 l2
                go_wp2
                go_ret
                exact ⟨ret_bool F.out, B9.out⟩
              go_wp2_with fail
              refine HC2.out.mono ?_
              rintro e w9 ⟨rfl, b9⟩
              have B9 := Lib.hid (B8.out.trans (b9.mono B8.out.size))
              have K1 := Lib.hid (K1.out.ext b9)
              have K2 := Lib.hid (K2.out.ext b9)
              have O1 := Lib.hid (O1.out.ext b9)
              clear b9 HC2 B8 a0 a1 a2 a3 e4 e5 e6
              have a0 : w9.cell? ⟨g1, 0, none⟩ = some (.int .u8 ((p.1.1.val : Nat) : Int)) := K1.out.cell 0
              have a1 : w9.cell? ⟨g1, 1, none⟩ = some (.int .u16 ((p.1.2.val : Nat) : Int)) := K1.out.cell 1
              have a3 : w9.cell? ⟨g1, 3, none⟩ = some (.slice (some ⟨b, off, none⟩) p.2.2.length c') := K1.out.cell 3
              have e0 : w9.cell? ⟨g2, 0, none⟩ = some (.int .u8 ((o.1.val : Nat) : Int)) := K2.out.cell 0
              have e1 : w9.cell? ⟨g2, 1, none⟩ = some (.int .u8 ((o.2.1.1.1.val : Nat) : Int)) := K2.out.cell 1
              have e2 : w9.cell? ⟨g2, 2, none⟩ = some (.int .u16 ((o.2.1.1.2.val : Nat) : Int)) := K2.out.cell 2
              have e3 : w9.cell? ⟨g2, 3, none⟩ = some (.int .u8 ((o.2.1.2.val : Nat) : Int)) := K2.out.cell 3
              have e4 : w9.cell? ⟨g2, 4, none⟩ = some (.int .u8 ((o.2.2.1.1.1.val : Nat) : Int)) := K2.out.cell 4
              have e5 : w9.cell? ⟨g2, 5, none⟩ = some (.int .u16 ((o.2.2.1.1.2.val : Nat) : Int)) := K2.out.cell 5
              have e6 : w9.cell? ⟨g2, 6, none⟩ = some (.int .u8 ((o.2.2.1.2.val : Nat) : Int)) := K2.out.cell 6
              have F : Hid ((decide (o.2.1.1 ≠ p.1) || (decide (o.2.2.1.1 ≠ p.1) || sameAt p o)) = oneR p k o) := by rw [Hid, F.out, TV.out]; rfl
              clear TV d2 d3 d4
              by_cases q1 : o.2.1.1 = p.1
              · by_cases q2 : o.2.2.1.1 = p.1
                · have NEAt : ∀ u : World, (binOp .neq 29 (.agg #[.int .u8 ((o.2.1.1.1.val : Nat) : Int), .int .u16 ((o.2.1.1.2.val : Nat) : Int)]) (.agg #[.int .u8 ((p.1.1.val : Nat) : Int), .int .u16 ((p.1.2.val : Nat) : Int)])).run Tryd.prog u = .ok (.bool false) u := fun u => (neqP o.2.1.1 p.1 u).trans (by rw [decide_eq_true q1]; rfl)
                  have NETo : ∀ u : World, (binOp .neq 29 (.agg #[.int .u8 ((o.2.2.1.1.1.val : Nat) : Int), .int .u16 ((o.2.2.1.1.2.val : Nat) : Int)]) (.agg #[.int .u8 ((p.1.1.val : Nat) : Int), .int .u16 ((p.1.2.val : Nat) : Int)])).run Tryd.prog u = .ok (.bool false) u := fun u => (neqP o.2.2.1.1 p.1 u).trans (by rw [decide_eq_true q2]; rfl)
                  have l1 := l1.out q1
                  have l2 := l2.out q2
                  obtain ⟨bb, oo, x1, hA, hbb, hx1, R1, _⟩ := O1.out.at_ (show o.2.1.2.val < p.2.2.length by omega)
                  injection hA with hA
                  injection hA with hA1 hA2 _
                  subst hA1 hA2
                  obtain ⟨b', o', x2, hA, hbb2, hx2, R2, _⟩ := O1.out.at_ (show o.2.2.1.2.val < p.2.2.length by omega)
                  injection hA with hA
                  injection hA with hA1 hA2 _
                  subst hA1 hA2
                  have F : Hid (decide (x1.2.1 = x2.2.1) = oneR p k o) := by
                    rw [Hid, ← F.out]
                    unfold sameAt atOf
                    rw [decide_eq_false (show ¬ o.2.1.1 ≠ p.1 from fun h => h q1), decide_eq_false (show ¬ o.2.2.1.1 ≠ p.1 from fun h => h q2), hx1, hx2]
                    simp
                  have s1 : w9.cell? ⟨b, off + o.2.1.2.val * 8 + 1, none⟩ = some (.int .u8 ((x1.2.1.1.1.val : Nat) : Int)) := R1 1 _ rfl
                  have s2 : w9.cell? ⟨b, off + o.2.1.2.val * 8 + 2, none⟩ = some (.int .u16 ((x1.2.1.1.2.val : Nat) : Int)) := R1 2 _ rfl
                  have s3 : w9.cell? ⟨b, off + o.2.1.2.val * 8 + 3, none⟩ = some (.int .u8 ((x1.2.1.2.val : Nat) : Int)) := R1 3 _ rfl
                  have t1 : w9.cell? ⟨b, off + o.2.2.1.2.val * 8 + 1, none⟩ = some (.int .u8 ((x2.2.1.1.1.val : Nat) : Int)) := R2 1 _ rfl
                  have t2 : w9.cell? ⟨b, off + o.2.2.1.2.val * 8 + 2, none⟩ = some (.int .u16 ((x2.2.1.1.2.val : Nat) : Int)) := R2 2 _ rfl
                  have t3 : w9.cell? ⟨b, off + o.2.2.1.2.val * 8 + 3, none⟩ = some (.int .u8 ((x2.2.1.2.val : Nat) : Int)) := R2 3 _ rfl
                  have EV' : ∀ u : World, (binOp .eql 39 (.agg #[.int .u8 ((x1.2.1.1.1.val : Nat) : Int), .int .u16 ((x1.2.1.1.2.val : Nat) : Int), .int .u8 ((x1.2.1.2.val : Nat) : Int)]) (.agg #[.int .u8 ((x2.2.1.1.1.val : Nat) : Int), .int .u16 ((x2.2.1.1.2.val : Nat) : Int), .int .u8 ((x2.2.1.2.val : Nat) : Int)])).run Tryd.prog u = .ok (.bool (decide (x1.2.1 = x2.2.1))) u := fun u => eqlV x1.2.1 x2.2.1 u
                  have j1 : ((o.2.1.2.val : Nat) : Int) < (p.2.2.length : Int) := by omega
                  have j2 : ((o.2.2.1.2.val : Nat) : Int) < (p.2.2.length : Int) := by omega
                  have j3 : 0 ≤ ((o.2.1.2.val : Nat) : Int) := by omega
                  have j4 : 0 ≤ ((o.2.2.1.2.val : Nat) : Int) := by omega
                  have j5 : ((o.2.1.2.val : Nat) : Int) < 256 := (u8_in _).2
                  have j6 : ((o.2.2.1.2.val : Nat) : Int) < 256 := (u8_in _).2
                  clear q1 q2 O1 hx1 hx2 R1 R2 l1 l2 HI c4 k4 T
                  generalize decide (x1.2.1 = x2.2.1) = res at *
                  go_wp2_with fail
                  go_quiet (fail)
                  go_wp2
                  go_ret
                  exact ⟨ret_bool F.out, below_drewN B9.out _⟩
                · have NEAt : ∀ u : World, (binOp .neq 29 (.agg #[.int .u8 ((o.2.1.1.1.val : Nat) : Int), .int .u16 ((o.2.1.1.2.val : Nat) : Int)]) (.agg #[.int .u8 ((p.1.1.val : Nat) : Int), .int .u16 ((p.1.2.val : Nat) : Int)])).run Tryd.prog u = .ok (.bool false) u := fun u => (neqP o.2.1.1 p.1 u).trans (by rw [decide_eq_true q1]; rfl)
                  have NETo : ∀ u : World, (binOp .neq 29 (.agg #[.int .u8 ((o.2.2.1.1.1.val : Nat) : Int), .int .u16 ((o.2.2.1.1.2.val : Nat) : Int)]) (.agg #[.int .u8 ((p.1.1.val : Nat) : Int), .int .u16 ((p.1.2.val : Nat) : Int)])).run Tryd.prog u = .ok (.bool true) u := fun u => (neqP o.2.2.1.1 p.1 u).trans (by rw [decide_eq_false q2]; rfl)
                  have F : Hid (true = oneR p k o) := by rw [Hid, ← F.out, decide_eq_true (show o.2.2.1.1 ≠ p.1 from q2)]; simp
                  clear q1 q2 O1 l1 l2 HI c4 k4 T
                  go_wp2_with fail
                  go_quiet (fail)
                  go_wp2
                  go_ret
                  exact ⟨ret_bool F.out, below_drewN B9.out _⟩
              · have NEAt : ∀ u : World, (binOp .neq 29 (.agg #[.int .u8 ((o.2.1.1.1.val : Nat) : Int), .int .u16 ((o.2.1.1.2.val : Nat) : Int)]) (.agg #[.int .u8 ((p.1.1.val : Nat) : Int), .int .u16 ((p.1.2.val : Nat) : Int)])).run Tryd.prog u = .ok (.bool true) u := fun u => (neqP o.2.1.1 p.1 u).trans (by rw [decide_eq_false q1]; rfl)
                have F : Hid (true = oneR p k o) := by rw [Hid, ← F.out, decide_eq_true (show o.2.1.1 ≠ p.1 from q1)]; simp
                clear q1 O1 l1 l2 HI c4 k4 T
                go_wp2_with fail
                go_quiet (fail)
                go_wp2
                go_ret
                exact ⟨ret_bool F.out, below_drewN B9.out _⟩
            · have d4 : (((o.1.val : Nat) : Int) == 4) = false := by have := kind_eq o 4; rw [decide_eq_false c4] at this; exact this
              have d2 : (((o.1.val : Nat) : Int) == 2) = false := by have := kind_eq o 2; rw [decide_eq_false (by omega)] at this; exact this
              have d3 : (((o.1.val : Nat) : Int) == 3) = false := by have := kind_eq o 3; rw [decide_eq_false (by omega)] at this; exact this
              rw [if_neg (by omega), if_neg c4] at TV
              have F : Hid (true = oneR p k o) := by rw [Hid, F.out, TV.out]
              clear TV c4 HGR T
              go_wp2
              go_ret
              exact ⟨ret_bool F.out, B5.out⟩
      · have d5 : decide ((4 : Int) ≤ ((o.1.val : Nat) : Int)) = false := decide_eq_false (by omega)
        go_loopw [8] (fun j wr => ∃ k : Nat, k ≤ i ∧ j = .int .i64 k ∧ Hid (True) ∧ ∃ u, wr = w6.drewN u) (fun j _ => i - (intOf j).toNat)
        case atStart => exact ⟨0, by omega, rfl, trivial, 0, rfl⟩
        case round =>
          obtain ⟨k, hk, rfl, T, u, rfl⟩ := hrel
          have hk0 : (0 : Int) ≤ (k : Int) := by omega
          by_cases hlk : k < i
          · have hlk2 : (k : Int) < (i : Int) := by omega
            go_wp2_with fail
            go_quiet (fail)
            go_wp2_with fail
            go_roundw
            case rel => exact ⟨k + 1, by omega, by go_num, trivial, _, rfl⟩
            case measure => simp [intOf]; omega
          · have hlk2 : ¬ ((k : Int) < (i : Int)) := by omega
            have hki : k = i := by omega
            subst hki
            have F : Hid (oneR p k o = tailV p o) := by rw [Hid, F.out, decide_eq_false k4]; simp
            clear HV V hvs
            have K1 := Lib.hid (K1.out.drewN u)
            have K2 := Lib.hid (K2.out.drewN u)
            have O1 := Lib.hid (O1.out.drewN u)
            have PA := Lib.hid (PA.out.ext (below_drewN (Below.refl _ _) u))
            have B5 := Lib.hid (below_drewN B5.out u)
            replace a0 : (w6.drewN u).cell? _ = _ := a0
            replace a1 : (w6.drewN u).cell? _ = _ := a1
            replace a3 : (w6.drewN u).cell? _ = _ := a3
            replace e0 : (w6.drewN u).cell? _ = _ := e0
            replace e1 : (w6.drewN u).cell? _ = _ := e1
            replace e2 : (w6.drewN u).cell? _ = _ := e2
            replace e3 : (w6.drewN u).cell? _ = _ := e3
            replace e4 : (w6.drewN u).cell? _ = _ := e4
            replace e5 : (w6.drewN u).cell? _ = _ := e5
            replace e6 : (w6.drewN u).cell? _ = _ := e6
            generalize w6.drewN u = w7 at *
            by_cases c2 : o.1.val = 2
            · have d2 : (((o.1.val : Nat) : Int) == 2) = true := by have := kind_eq o 2; rw [decide_eq_true c2] at this; exact this
              rw [if_pos (by omega)] at TV
              have RA := Lib.hid (op_at1 K2.out)
              have HC1 := Lib.hid (own18_any p o.2.1 1 w7 _ PA.out)
              have F : Hid (ownV p o.2.1 1 = oneR p k o) := by rw [Hid, F.out, TV.out]
              clear TV HGR
              generalize ownV p o.2.1 1 = r1 at *
              clear e1 e2 e3 e4 e5 e6 a0 a1 a3
              go_wp2_with (first
                | (refine wpList_load_row rfl 33 _ (by rfl) g1 (by rfl) _ _ _ _ K1.out underPat rfl infoPat ?_)
                | (refine wpList_load_mid rfl 39 _ (by rfl) g2 1 (by rfl) _ _ RA.out underVid rfl infoVid ?_))
              refine HC1.out.mono ?_
              rintro e w8 ⟨rfl, b8⟩
              have B8 := Lib.hid (B5.out.trans (b8.mono B5.out.size))
              clear b8 HC1
              go_wp2
              go_ret
              exact ⟨ret_bool F.out, B8.out⟩
            by_cases c3 : o.1.val = 3
            · have d2 : (((o.1.val : Nat) : Int) == 2) = false := by have := kind_eq o 2; rw [decide_eq_false c2] at this; exact this
              have d3 : (((o.1.val : Nat) : Int) == 3) = true := by have := kind_eq o 3; rw [decide_eq_true c3] at this; exact this
              rw [if_pos (by omega)] at TV
              have RA := Lib.hid (op_at1 K2.out)
              have HC1 := Lib.hid (own18_any p o.2.1 1 w7 _ PA.out)
              have F : Hid (ownV p o.2.1 1 = oneR p k o) := by rw [Hid, F.out, TV.out]
              clear TV HGR
              generalize ownV p o.2.1 1 = r1 at *
              clear e1 e2 e3 e4 e5 e6 a0 a1 a3
              go_wp2_with (first
                | (refine wpList_load_row rfl 33 _ (by rfl) g1 (by rfl) _ _ _ _ K1.out underPat rfl infoPat ?_)
                | (refine wpList_load_mid rfl 39 _ (by rfl) g2 1 (by rfl) _ _ RA.out underVid rfl infoVid ?_))
              refine HC1.out.mono ?_
              rintro e w8 ⟨rfl, b8⟩
              have B8 := Lib.hid (B5.out.trans (b8.mono B5.out.size))
              clear b8 HC1
              go_wp2
              go_ret
              exact ⟨ret_bool F.out, B8.out⟩
            have d4 : (((o.1.val : Nat) : Int) == 4) = false := by have := kind_eq o 4; rw [decide_eq_false (by omega)] at this; exact this
            have d2 : (((o.1.val : Nat) : Int) == 2) = false := by have := kind_eq o 2; rw [decide_eq_false c2] at this; exact this
            have d3 : (((o.1.val : Nat) : Int) == 3) = false := by have := kind_eq o 3; rw [decide_eq_false c3] at this; exact this
            rw [if_neg (by omega), if_neg (by omega)] at TV
            have F : Hid (true = oneR p k o) := by rw [Hid, F.out, TV.out]
            clear TV c2 c3 HGR
            go_wp2
            go_ret
            exact ⟨ret_bool F.out, B5.out⟩
end Go.Proofs.YtihggkmjalofiaaDoor
