/- Which patches come ahead: the document's, walked. -/
import Derived.Test.YtmfdggolnfoniaaRefn
namespace Go.Proofs.Ytmfdggolnfoniaa
open Go.RowKit

def firstDep (id : PidV) : List PidV := if h : 1 < id.2.val then [(id.1, ⟨id.2.val - 1, by have := id.2.isLt; omega⟩)] else []
def opDeps (id : PidV) (o : OpV) : List PidV := ((refsO o).filter fun v => decide (v.1 ≠ id)).map (·.1)
def rawDeps (id : PidV) (l : List OpV) : List PidV := firstDep id ++ l.flatMap (opDeps id)
def depsV (id : PidV) (l : List OpV) : List PidV := setK keyP (rawDeps id l)
theorem opDeps_le (id : PidV) (o : OpV) : (opDeps id o).length ≤ 2 := by
  unfold opDeps
  rw [List.length_map]
  exact Nat.le_trans (List.length_filter_le _ _) (refsO_le o)
theorem rawDeps_le (id : PidV) (l : List OpV) : (rawDeps id l).length ≤ 1 + 2 * l.length := by
  unfold rawDeps
  have h1 : (firstDep id).length ≤ 1 := by unfold firstDep; split <;> simp
  have h2 : (l.flatMap (opDeps id)).length ≤ 2 * l.length := by
    induction l with
    | nil => simp
    | cons o l ih =>
      rw [List.flatMap_cons, List.length_append, List.length_cons]
      have := opDeps_le id o
      omega
  rw [List.length_append]; omega
theorem raw_snoc {id : PidV} {l : List OpV} {k : Nat} {o : OpV} (h : l[k]? = some o) : rawDeps id (l.take (k + 1)) = rawDeps id (l.take k) ++ opDeps id o := by
  unfold rawDeps; rw [take_snoc' h]; simp
def partDeps (id : PidV) (vs : List VidV) : List PidV := (vs.filter fun v => decide (v.1 ≠ id)).map (·.1)
theorem part_snoc_in {id : PidV} {vs : List VidV} {j : Nat} {v : VidV} (h : vs[j]? = some v) (hv : v.1 ≠ id) : partDeps id (vs.take (j + 1)) = partDeps id (vs.take j) ++ [v.1] := by
  unfold partDeps; rw [take_snoc' h]; simp [hv]
theorem part_snoc_out {id : PidV} {vs : List VidV} {j : Nat} {v : VidV} (h : vs[j]? = some v) (hv : v.1 = id) : partDeps id (vs.take (j + 1)) = partDeps id (vs.take j) := by
  unfold partDeps; rw [take_snoc' h]; simp [hv]
theorem part_all {id : PidV} {o : OpV} {j : Nat} (h : j = (refsO o).length) : partDeps id ((refsO o).take j) = opDeps id o := by
  rw [h, List.take_length]; rfl
theorem part_le (id : PidV) (vs : List VidV) (j : Nat) : (partDeps id (vs.take j)).length ≤ j := by
  unfold partDeps
  rw [List.length_map]
  refine Nat.le_trans (List.length_filter_le _ _) ?_
  rw [List.length_take]; omega
theorem vid_pid_range {w : World} {b o : Nat} {v : VidV} (h : w.rangeAt b o (encV v)) : w.rangeAt b o (encP v.1) := fun j u hj => by
  match j, hj with
  | 0, hj => exact h 0 u hj
  | 1, hj => exact h 1 u hj
  | j + 2, hj => simp [encP] at hj
theorem firstDep_cases (id : PidV) : (¬ (1 < ((id.2.val : Nat) : Int)) ∧ firstDep id = []) ∨ (1 < ((id.2.val : Nat) : Int) ∧ ∃ q : PidV, firstDep id = [q] ∧ Hid (encP q = [.int .u8 ((id.1.val : Nat) : Int), .int .u16 (((id.2.val : Nat) : Int) - 1)])) := by
  by_cases h1 : 1 < id.2.val
  · refine .inr ⟨by omega, (id.1, ⟨id.2.val - 1, by have := id.2.isLt; omega⟩), by unfold firstDep; rw [dif_pos h1], ?_⟩
    have : ((id.2.val - 1 : Nat) : Int) = ((id.2.val : Nat) : Int) - 1 := by omega
    simp [encP, Hid, this]
  · exact .inl ⟨by omega, by unfold firstDep; rw [dif_neg h1]⟩
theorem raw_nil (id : PidV) (l : List OpV) : rawDeps id (l.take 0) = firstDep id := by simp [rawDeps]
set_option maxRecDepth 100000 in
set_option maxHeartbeats 8000000 in
theorem rdepsP_own (id : PidV) (l : List OpV) (w : World) (A : Option Addr) (n c : Nat) (hm : n ≤ 300) (h : OpsAt w A n l) :
    Calls Try.prog 22 #[.agg (encP id).toArray, .slice A n c] w (OwnedRet w 33 2 (depsV id l).length ((depsV id l).flatMap encP)) := by
  have L := Lib.hid h
  clear h
  have i1 : 0 ≤ ((id.2.val : Nat) : Int) := by omega
  have i2 : ((id.2.val : Nat) : Int) < 65536 := by have := id.2.isLt; omega
  have i3 : 0 ≤ ((id.1.val : Nat) : Int) := by omega
  have i4 : ((id.1.val : Nat) : Int) < 256 := by have := id.1.isLt; omega
  have K : Hid (Blk (w.alloc (.cells (encP id).toArray 33)) w.heap.size 33 (encP id).toArray) := Blk.new _ _ _
  have B0 : Hid (Below w.heap.size w (w.alloc (.cells (encP id).toArray 33))) := below_new _ _
  have hz : (w.alloc (.cells (encP id).toArray 33)).heap.size = w.heap.size + 1 := by go_size
  have p0 : (w.alloc (.cells (encP id).toArray 33)).cell? ⟨w.heap.size, 0, none⟩ = some (.int .u8 ((id.1.val : Nat) : Int)) := K.out.cell 0
  have p1 : (w.alloc (.cells (encP id).toArray 33)).cell? ⟨w.heap.size, 1, none⟩ = some (.int .u16 ((id.2.val : Nat) : Int)) := K.out.cell 1
  have R1 : Hid ((w.alloc (.cells (encP id).toArray 33)).rangeAt w.heap.size 0 (encP id)) := blk_sub K.out fun j v hv => by simpa using hv
  have L1 := Lib.hid (L.out.ext B0.out)
  clear L K
  have hf := firstDep_cases id
  generalize ((id.2.val : Nat) : Int) = s at p1 i1 i2 hf
  generalize ((id.1.val : Nat) : Int) = u at p0 i3 i4 hf
  go_enter Try.func22, Try.ntmps22
  rcases hf with ⟨h1, hfd⟩ | ⟨h1, first, hfd, hfe⟩
  case' inl => (
    go_upto_region 4 with fail
    have O1 : Hid ((w.alloc (.cells (encP id).toArray 33)).ownsRow (w.heap.size + 1) 33 2 (.slice none 0 0) (rawDeps id (l.take 0)).length ((rawDeps id (l.take 0)).flatMap encP)) := by
      rw [Hid, raw_nil, hfd]; exact World.ownsRow_nil _ _ _ _
    have B1 := Lib.hid (Below.refl (w.heap.size + 1) (w.alloc (.cells (encP id).toArray 33))))
  case' inr => (
    go_upto_region 4 with (first | (refine wpList_lit1 pidSl (encP_len first) (by omega) (by rw [hfe.out]; rfl) ?_) | (at_builtin; refine wpList_push pidSl (base := w.heap.size + 1) (World.ownsRow_nil _ _ _ _) (encP first) rfl (encP_one first) (by rw [hz]; exact Nat.le_refl _) (by decide) (by decide) (by rfl) (by rfl) (by rfl) ?_; intro v1 w1 own1 bel1))
    have O1 : Hid (w1.ownsRow (w.heap.size + 1) 33 2 v1 (rawDeps id (l.take 0)).length ((rawDeps id (l.take 0)).flatMap encP)) := by
      rw [Hid, raw_nil, hfd]; simpa using own1
    have B1 := Lib.hid bel1
    clear own1 bel1 hfe)
  all_goals (
    clear hfd h1 p0 p1 i1 i2 i3 i4
    go_wp2_with fail
    go_loopw [5, 6] (fun v i wr => ∃ (k : Nat), k ≤ n ∧ i = .int .i64 k ∧ Hid (wr.ownsRow (w.heap.size + 1) 33 2 v (rawDeps id (l.take k)).length ((rawDeps id (l.take k)).flatMap encP)) ∧ Hid (Below (w.heap.size + 1) (w.alloc (.cells (encP id).toArray 33)) wr)) (fun _ i _ => n - (intOf i).toNat)
    case atStart => exact ⟨0, by omega, rfl, O1, B1⟩
    case round =>
      clear O1 B1
      obtain ⟨k, hk, rfl, O, B⟩ := hrel
      have hk0 : (0 : Int) ≤ (k : Int) := by omega
      have hws : w.heap.size + 1 ≤ wr.heap.size := by have := B.out.size; rw [hz] at this; exact this
      by_cases hlt : k < n
      · obtain ⟨b, o, x, rfl, hb, hx, R0, hok⟩ := L1.out.at_ hlt
        rw [hz] at hb
        have R0 := Lib.hid (rangeAt_below R0 B.out hb)
        have hlk : (k : Int) < (n : Int) := by omega
        have S := Lib.hid (raw_snoc (id := id) hx)
        clear hx hok
        go_wp2_with (refine wpList_load_mid rfl 54 _ rfl _ _ (by rfl) _ _ R0.out underOp rfl infoOp ?_)
        refine (rrefsW x _).mono ?_
        rintro e w2 ⟨v2, rfl, V2, b2⟩
        have O2 := Lib.hid (own_ext O.out b2)
        have B2 := Lib.hid (B.out.trans (b2.mono hws))
        have V2 := Lib.hid (own_base V2 (Nat.zero_le _))
        clear b2 O R0
        obtain ⟨A2, c2, rfl, hc2, _⟩ := Sl.of_own V2.out
        go_wp2_with fail
        have e0 : rawDeps id (l.take k) ++ partDeps id ((refsO x).take 0) = rawDeps id (l.take k) := by simp [partDeps]
        go_loopw [5, 8] (fun v i wr => ∃ (j : Nat), j ≤ (refsO x).length ∧ i = .int .i64 j ∧ Hid (wr.ownsRow (w.heap.size + 1) 33 2 v (rawDeps id (l.take k) ++ partDeps id ((refsO x).take j)).length ((rawDeps id (l.take k) ++ partDeps id ((refsO x).take j)).flatMap encP)) ∧ Hid (Below (w.heap.size + 1) (w.alloc (.cells (encP id).toArray 33)) wr) ∧ Hid (wr.ownsRow 0 49 3 (.slice A2 (refsO x).length c2) (refsO x).length ((refsO x).flatMap encV))) (fun _ i _ => (refsO x).length - (intOf i).toNat)
        case atStart => exact ⟨0, by omega, rfl, by rw [Hid, e0]; exact O2.out, B2, V2⟩
        case round =>
          clear O2 B2 V2 e0
          obtain ⟨j, hj, rfl, O3, B3, V3⟩ := hrel
          have hj0 : (0 : Int) ≤ (j : Int) := by omega
          have hr2 := refsO_le x
          by_cases hjl : j < (refsO x).length
          · obtain ⟨A', c', he, hcc, P3⟩ := VidsAt.of_own V3.out rfl
            injection he with e1 e2 e3
            subst e1
            clear e2 e3 hcc
            obtain ⟨b', o', y, rfl, hb', hy, R3⟩ := P3.at_ hjl
            have R3 := Lib.hid (vid_pid_range R3)
            have hbz : w.heap.size < wr.heap.size := by have := B3.out.size; rw [hz] at this; omega
            have R2 := Lib.hid (rangeAt_below R1.out B3.out (Nat.lt_succ_self w.heap.size))
            have hlj : (j : Int) < ((refsO x).length : Int) := by omega
            have NE := fun u => neqP y.1 id u
            clear P3
            by_cases hv : y.1 = id
            · have E := Lib.hid (part_snoc_out hy hv)
              have NE' : ∀ u : World, (binOp .neq 33 (.agg (encP y.1).toArray) (.agg (encP id).toArray)).run Try.prog u = .ok (.bool false) u := fun u => by rw [NE, decide_eq_true hv]; rfl
              clear NE hv hy
              go_wp2_with fail
              refine wp_region_ext mixedS (by kernel_rfl) ?_
              repeat (first | (refine wpQuiet_load_mid (rangeAt_ext R3.out hb') underPid rfl infoPid rfl rfl ?_; simp only [List.set_cons_succ, List.set_cons_zero]) | (refine wpQuiet_load_mid (rangeAt_ext R2.out hbz) underPid rfl infoPid rfl rfl ?_; simp only [List.set_cons_succ, List.set_cons_zero]) | go_big_quiet_step (fail))
              refine wpQuiet_nil ?_
              rintro _ ⟨z, rfl⟩
              have O3 := Lib.hid (own_ext O3.out z.h)
              have V3 := Lib.hid (own_ext V3.out z.h)
              have B3 := Lib.hid (B3.out.trans (z.h.mono (by omega)))
              rw [← E.out] at O3
              go_wp2_with fail
              go_roundw
              case rel => exact ⟨j + 1, by omega, by go_num, O3, B3, V3⟩
              case measure => simp [intOf]; omega
            · have E := Lib.hid (part_snoc_in hy hv)
              have NE' : ∀ u : World, (binOp .neq 33 (.agg (encP y.1).toArray) (.agg (encP id).toArray)).run Try.prog u = .ok (.bool true) u := fun u => by rw [NE, decide_eq_false hv]; rfl
              clear NE hv hy
              have hlen : (rawDeps id (l.take k) ++ partDeps id ((refsO x).take j)).length ≤ 1000 := by
                have h1 := rawDeps_le id (l.take k)
                have h2 := part_le id (refsO x) j
                have h3 := refsO_le x
                rw [List.length_take] at h1
                rw [List.length_append]; omega
              go_wp2_with fail
              refine wp_region_ext mixedS (by kernel_rfl) ?_
              repeat (first | (refine wpQuiet_load_mid (rangeAt_ext R3.out hb') underPid rfl infoPid rfl rfl ?_; simp only [List.set_cons_succ, List.set_cons_zero]) | (refine wpQuiet_load_mid (rangeAt_ext R2.out hbz) underPid rfl infoPid rfl rfl ?_; simp only [List.set_cons_succ, List.set_cons_zero]) | go_big_quiet_step (fail))
              refine wpQuiet_nil ?_
              rintro _ ⟨z, rfl⟩
              have O3 := Lib.hid (own_ext O3.out z.h)
              have V3 := Lib.hid (own_ext V3.out z.h)
              have B3 := Lib.hid (B3.out.trans (z.h.mono (by omega)))
              have R3 := Lib.hid (rangeAt_below R3.out z.h hb')
              have hws3 : w.heap.size + 1 ≤ z.w.heap.size := by have := z.h.size; omega
              generalize z.w = w3 at *
              clear z
              have E2 : rawDeps id (l.take k) ++ partDeps id ((refsO x).take (j + 1)) = (rawDeps id (l.take k) ++ partDeps id ((refsO x).take j)) ++ [y.1] := by rw [E.out, List.append_assoc]
              have E2 := Lib.hid E2
              clear E
              generalize rawDeps id (l.take k) ++ partDeps id ((refsO x).take j) = acc at O3 E2 hlen
              go_wp2_with (first | (refine wpList_load_mid rfl 33 _ rfl _ _ (by rfl) _ _ R3.out underPid rfl infoPid ?_) | (refine wpList_lit1 pidSl (encP_len y.1) (by omega) (by rfl) ?_) | (at_builtin; refine wpList_pushOnly pidSl O3.out (encP y.1) rfl (encP_one y.1) hws3 (by omega) (by unfold maxLen; omega) _ rfl (by rfl) (by rfl) (by rfl) ?_; intro v5 w5 own5 gr5 bel5))
              have V5 := Lib.hid ((V3.out.alloc _).kept gr5 (own_ne (V3.out.alloc _) (O3.out.alloc (.cells (encP y.1).toArray 33)) (by decide)))
              have B5 := Lib.hid (B3.out.trans bel5)
              have O5 : Hid (w5.ownsRow (w.heap.size + 1) 33 2 v5 (rawDeps id (l.take k) ++ partDeps id ((refsO x).take (j + 1))).length ((rawDeps id (l.take k) ++ partDeps id ((refsO x).take (j + 1))).flatMap encP)) := by
                rw [Hid, E2.out]; simp only [flat_snocP, List.length_append, List.length_cons, List.length_nil, Nat.zero_add]; exact own5
              clear own5 bel5 gr5 O3 B3 V3
              go_roundw
              case rel => exact ⟨j + 1, by omega, by go_num, O5, B5, V5⟩
              case measure => simp [intOf]; omega
          · have E := Lib.hid (part_all (id := id) (show j = (refsO x).length by omega))
            rw [E.out, ← S.out] at O3
            have hlj : ¬ ((j : Int) < ((refsO x).length : Int)) := by omega
            clear E S
            go_wp2_with fail
            go_roundw
            case rel => exact ⟨k + 1, by omega, by go_num, O3, B3⟩
            case measure => simp [intOf]; omega
      · rw [List.take_of_length_le (by rw [L1.out.len]; omega)] at O
        have hlen : (rawDeps id l).length ≤ 100000 := by
          have h1 := rawDeps_le id l
          rw [L1.out.len] at h1; omega
        obtain ⟨A3, c3, rfl, hc3, P3⟩ := PidsAt.of_own O.out rfl
        have hlk : ¬ ((k : Int) < (n : Int)) := by omega
        clear O hc3
        go_wp2_with fail
        refine (rsetP_own _ _ A3 _ c3 P3 hlen).mono ?_
        rintro e w2 ⟨v4, rfl, o4, b4⟩
        have O4 := Lib.hid (own_mono' o4 (show w.heap.size ≤ wr.heap.size by have := B.out.size; omega))
        clear o4
        go_wp2
        go_ret
        exact ⟨v4, rfl, O4.out, (B0.out.trans (B.out.mono (Nat.le_succ _))).trans (b4.mono (by omega))⟩)
theorem rdepsP (id : PidV) (l : List OpV) (w : World) (A : Option Addr) (n c : Nat) (hm : n ≤ 300) (h : OpsAt w A n l) :
    Calls Try.prog 22 #[.agg (encP id).toArray, .slice A n c] w (RetSl w 2 (depsV id l).length ((depsV id l).flatMap encP)) := (rdepsP_own id l w A n c hm h).mono fun _ _ h => h.sl
end Go.Proofs.Ytmfdggolnfoniaa
