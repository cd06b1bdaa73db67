/- What two lists have in common, and how long it is: walked. -/
import Derived.Test.YtlebhalaodmkhaaLcsc
namespace Go.Proofs.Ytlebhalaodmkhaa
open Go.RowKit

def pairC (d : List (Nat × Nat)) : List Value := d.flatMap fun p => [.int .i64 (p.1 : Int), .int .i64 (p.2 : Int)]
theorem pairC_snoc (d : List (Nat × Nat)) (i j : Nat) : pairC (d ++ [(i, j)]) = pairC d ++ [.int .i64 (i : Int), .int .i64 (j : Int)] := by simp [pairC]
theorem pairSl : SlT Try.prog 35 38 2 16 := slT_of Try.underlying35 (z := .agg #[.int .i64 0, .int .i64 0]) (by kernel_rfl) rfl (by omega)
theorem TabAt.below {w w' : World} {g m n k B : Nat} {f : Nat → Nat → Int} (h : TabAt w g m n k f) (hb : Below B w w') (hB : w.heap.size ≤ B) : TabAt w' g m n k f :=
  ⟨h.out.below hb (by have := h.out.lt; omega), fun p hp => (h.row p hp).below hb (by have := (h.row p hp).lt; omega)⟩
theorem own_drewN {w : World} {base : Nat} {e : TypeId} {size n : Nat} {v : Value} {xs : List Value} (h : w.ownsRow base e size v n xs) (k : Nat) : (w.drewN k).ownsRow base e size v n xs := h
theorem ret_below {w w1 wr : World} {g : Nat} (hg : w.heap.size = g) (h : Below g w w1) (h1 : Below w1.heap.size w1 wr) : Below w.heap.size w wr := by
  subst hg; exact ext_trans h h1


set_option maxHeartbeats 1000000 in
theorem length_any (xs ys : List ByteArray) (A B : Option Addr) (ca cb : Nat) (w : World) (ha : Sl w w.heap.size 1 A xs.length (xs.map Value.string)) (hb : Sl w w.heap.size 1 B ys.length (ys.map Value.string)) (hm : xs.length ≤ 100) (hn : ys.length ≤ 100) :
    Calls Try.prog 27 #[.slice A xs.length ca, .slice B ys.length cb] w (RetB w (.int .i64 (lcsL xs ys))) := by
  have TB := Lib.hid (table_any xs ys A B ca cb w ha hb hm hn)
  clear ha hb
  go_enter Try.func27, Try.ntmps27
  go_wp2_with fail
  refine TB.out.mono ?_
  rintro e w1 ⟨rfl, ht, hbl⟩
  have d0 := ht.co (p := 0) (by omega) (by omega)
  have d1 := ht.cr (p := 0) (q := 0) (by omega) (by omega)
  have B0 := Lib.hid hbl
  clear ht hbl TB
  go_wp2
  go_ret
  exact ⟨rfl, B0.out⟩


set_option maxHeartbeats 1000000 in
theorem rlength_any (xs ys : List ByteArray) (A B : Option Addr) (ca cb : Nat) (w : World) (ha : Sl w w.heap.size 1 A xs.length (xs.map Value.string)) (hb : Sl w w.heap.size 1 B ys.length (ys.map Value.string)) (hm : xs.length ≤ 100) (hn : ys.length ≤ 100) :
    Calls Try.prog 28 #[.slice A xs.length ca, .slice B ys.length cb] w (RetB w (.int .i64 (lcsL xs ys))) := by
  have TB := Lib.hid (rtable_any xs ys A B ca cb w ha hb hm hn)
  clear ha hb
  go_enter Try.func28, Try.ntmps28
  go_wp2_with fail
  refine TB.out.mono ?_
  rintro e w1 ⟨rfl, ht, hbl⟩
  have d0 := ht.co (p := 0) (by omega) (by omega)
  have d1 := ht.cr (p := 0) (q := 0) (by omega) (by omega)
  have B0 := Lib.hid hbl
  clear ht hbl TB
  go_wp2
  go_ret
  exact ⟨rfl, B0.out⟩


set_option maxRecDepth 100000 in
set_option maxHeartbeats 2000000 in
theorem match_any (xs ys : List ByteArray) (A B : Option Addr) (ca cb : Nat) (w : World) (ha : Sl w w.heap.size 1 A xs.length (xs.map Value.string)) (hb : Sl w w.heap.size 1 B ys.length (ys.map Value.string)) (hm : xs.length ≤ 100) (hn : ys.length ≤ 100) :
    Calls Try.prog 25 #[.slice A xs.length ca, .slice B ys.length cb] w (RetSl w 2 (lcsM xs ys 0 0).length (pairC (lcsM xs ys 0 0))) := by
  have HA := Lib.hid ha
  have HB := Lib.hid hb
  have TB := Lib.hid (table_any xs ys A B ca cb w ha hb hm hn)
  generalize hm' : xs.length = m at *
  generalize hn' : ys.length = n at *
  have Hm := Lib.hid hm'
  have Hn := Lib.hid hn'
  clear hm' hn' ha hb
  go_enter Try.func25, Try.ntmps25
  go_wp2_with fail
  refine TB.out.mono ?_
  rintro e w1 ⟨rfl, ht, hbl⟩
  rw [Hm.out, Hn.out] at ht
  rw [Hm.out]
  have TT := Lib.hid ht
  have B0 := Lib.hid hbl
  clear ht hbl TB
  have O0 : Hid (w1.ownsRow w1.heap.size 38 2 (.slice none 0 0) 0 (pairC [])) := ⟨by simp [pairC], .inl ⟨rfl, rfl⟩⟩
  have G0 := TT.out.out.lt
  obtain ⟨g, hg⟩ : ∃ g, w.heap.size = g := ⟨_, rfl⟩
  have HG := Lib.hid hg
  rw [hg] at TT B0 G0 HA HB
  rw [hg]
  clear hg
  go_wp2_with fail
  go_loopw [6, 7, 8] (fun v zi zj wr => ∃ (i j : Nat) (d : List (Nat × Nat)), i ≤ m ∧ j ≤ n ∧ zi = .int .i64 i ∧ zj = .int .i64 j ∧ lcsM xs ys 0 0 = d ++ lcsM xs ys i j ∧ d.length ≤ i ∧ wr.ownsRow w1.heap.size 38 2 v d.length (pairC d) ∧ Below w1.heap.size w1 wr) (fun _ zi zj _ => (m - (intOf zi).toNat) + (n - (intOf zj).toNat))
  case atStart => exact ⟨0, 0, [], by omega, by omega, rfl, rfl, rfl, by simp, O0.out, Below.refl _ _⟩
  case round =>
    obtain ⟨i, j, d, hi, hj, rfl, rfl, hd, hdl, hown, hbl⟩ := hrel
    clear O0
    have D := Lib.hid hd
    have O := Lib.hid hown
    have B1 := Lib.hid hbl
    clear hd hown hbl
    by_cases hi1 : i < m
    · by_cases hj1 : j < n
      · obtain ⟨sa, oa, u, rfl, hsa, hu, hca⟩ := HA.out.at_ hi1
        obtain ⟨sb, ob, u', rfl, hsb, hu', hcb⟩ := HB.out.at_ hj1
        have hxi : i < xs.length := by rw [Hm.out]; exact hi1
        have hyj : j < ys.length := by rw [Hn.out]; exact hj1
        have ux : u = .string xs[i] := by rw [List.getElem?_map, List.getElem?_eq_getElem hxi] at hu; simpa using hu.symm
        have uy : u' = .string ys[j] := by rw [List.getElem?_map, List.getElem?_eq_getElem hyj] at hu'; simpa using hu'.symm
        subst ux uy
        clear hu hu'
        have T1 := TT.out.below B1.out (by omega)
        have d0 := T1.co (p := i) (by omega) (by omega)
        have d1 := T1.co (p := i + 1) (by omega) (by omega)
        have d3 := T1.cr (p := i + 1) (q := j) (by omega) (by omega)
        have d4 := T1.cr (p := i) (q := j + 1) (by omega) (by omega)
        have hca' : wr.cell? ⟨sa, oa + i, none⟩ = some (.string xs[i]) := by rw [B1.out.cell (p := ⟨sa, oa + i, none⟩) (by show sa < w1.heap.size; omega), B0.out.cell (p := ⟨sa, oa + i, none⟩) hsa]; exact hca
        have hcb' : wr.cell? ⟨sb, ob + j, none⟩ = some (.string ys[j]) := by rw [B1.out.cell (p := ⟨sb, ob + j, none⟩) (by show sb < w1.heap.size; omega), B0.out.cell (p := ⟨sb, ob + j, none⟩) hsb]; exact hcb
        have i0 : (0 : Int) ≤ (i : Int) := by omega
        have i1 : (i : Int) < (m : Int) := by omega
        have j0 : (0 : Int) ≤ (j : Int) := by omega
        have j1 : (j : Int) < (n : Int) := by omega
        have X1 : Hid (∀ he : xs[i] = ys[j], lcsM xs ys 0 0 = (d ++ [(i, j)]) ++ lcsM xs ys (i + 1) (j + 1)) := fun he => by rw [D.out, lcsM_eq hxi hyj he]; simp
        have X2 : Hid (∀ he : xs[i] ≠ ys[j], lcsT xs ys i (j + 1) ≤ lcsT xs ys (i + 1) j → lcsM xs ys 0 0 = d ++ lcsM xs ys (i + 1) j) := fun he hg => by rw [D.out, lcsM_down hxi hyj he hg]
        have X3 : Hid (∀ he : xs[i] ≠ ys[j], ¬ lcsT xs ys i (j + 1) ≤ lcsT xs ys (i + 1) j → lcsM xs ys 0 0 = d ++ lcsM xs ys i (j + 1)) := fun he hg => by rw [D.out, lcsM_right hxi hyj he hg]
        clear hca hcb T1 D
        generalize lcsT xs ys (i + 1) j = v10 at *
        generalize lcsT xs ys i (j + 1) = v01 at *
        generalize xs[i] = s at *
        generalize ys[j] = t at *
        by_cases he : s = t
        · subst he
          have D2 := Lib.hid (X1.out rfl)
          clear X1 X2 X3
          have hlen : d.length ≤ 100 := by omega
          go_wp2_with fail
          go_quiet (fail)
          have O5 := Lib.hid (own_drewN O.out nq)
          have B5 := Lib.hid (below_drewN B1.out nq)
          clear O B1 d0 d1 d3 d4 hca' hcb'
          generalize wr.drewN nq = w5 at *
          go_wp2_with (at_builtin; refine wpList_push pairSl O5.out [.int .i64 (i : Int), .int .i64 (j : Int)] rfl (by simp [Value.oneCell']) B5.out.size (by omega) (by unfold maxLen; omega) (by rfl) (by rfl) (by rfl) ?_; intro v1 w2 own1 bel1)
          go_roundw
          case rel => exact ⟨i + 1, j + 1, d ++ [(i, j)], by omega, by omega, by go_num, by go_num, D2.out, by simp; omega, by rw [pairC_snoc, List.length_append]; exact own1, B5.out.trans bel1⟩
          case measure => simp [intOf]; omega
        · have hd : (s.toList == t.toList) = false := str_ne he
          by_cases hge : v01 ≤ v10
          · have D2 := Lib.hid (X2.out he hge)
            clear X1 X2 X3
            go_wp2_with fail
            go_quiet (fail)
            go_wp2_with fail
            go_quiet (fail)
            go_wp2
            go_roundw
            case rel => exact ⟨i + 1, j, d, by omega, by omega, by go_num, rfl, D2.out, by omega, O.out, below_drewN B1.out _⟩
            case measure => simp [intOf]; omega
          · have D2 := Lib.hid (X3.out he hge)
            have hgd : decide (v01 ≤ v10) = false := decide_eq_false hge
            clear X1 X2 X3
            go_wp2_with fail
            go_quiet (fail)
            go_wp2_with fail
            go_quiet (fail)
            go_wp2
            go_roundw
            case rel => exact ⟨i, j + 1, d, by omega, by omega, rfl, by go_num, D2.out, by omega, O.out, below_drewN B1.out _⟩
            case measure => simp [intOf]; omega
      · have hE : Hid (lcsM xs ys 0 0 = d) := by rw [Hid, D.out, lcsM_end (by rw [Hn.out]; omega)]; simp
        obtain ⟨A', c, hv, hnc, hsl⟩ := Sl.of_own O.out
        subst hv
        have HS := Lib.hid hsl
        clear hsl D
        have hjd : decide ((j : Int) < (n : Int)) = false := decide_eq_false (by omega)
        go_wp2
        go_ret
        rw [hE.out]
        exact ⟨A', c, rfl, hnc, HS.out, ret_below HG.out B0.out B1.out⟩
    · have hE : Hid (lcsM xs ys 0 0 = d) := by rw [Hid, D.out, lcsM_end (by rw [Hm.out]; omega)]; simp
      obtain ⟨A', c, hv, hnc, hsl⟩ := Sl.of_own O.out
      subst hv
      have HS := Lib.hid hsl
      clear hsl D
      have hjd : decide ((i : Int) < (m : Int)) = false := decide_eq_false (by omega)
      go_wp2
      go_ret
      rw [hE.out]
      exact ⟨A', c, rfl, hnc, HS.out, ret_below HG.out B0.out B1.out⟩


set_option maxRecDepth 100000 in
set_option maxHeartbeats 2000000 in
theorem rmatch_any (xs ys : List ByteArray) (A B : Option Addr) (ca cb : Nat) (w : World) (ha : Sl w w.heap.size 1 A xs.length (xs.map Value.string)) (hb : Sl w w.heap.size 1 B ys.length (ys.map Value.string)) (hm : xs.length ≤ 100) (hn : ys.length ≤ 100) :
    Calls Try.prog 26 #[.slice A xs.length ca, .slice B ys.length cb] w (RetSl w 2 (lcsM xs ys 0 0).length (pairC (lcsM xs ys 0 0))) := by
  have HA := Lib.hid ha
  have HB := Lib.hid hb
  have TB := Lib.hid (rtable_any xs ys A B ca cb w ha hb hm hn)
  generalize hm' : xs.length = m at *
  generalize hn' : ys.length = n at *
  have Hm := Lib.hid hm'
  have Hn := Lib.hid hn'
  clear hm' hn' ha hb
  go_enter Try.func26, Try.ntmps26
  go_wp2_with fail
  refine TB.out.mono ?_
  rintro e w1 ⟨rfl, ht, hbl⟩
  rw [Hm.out, Hn.out] at ht
  rw [Hm.out]
  have TT := Lib.hid ht
  have B0 := Lib.hid hbl
  clear ht hbl TB
  have O0 : Hid (w1.ownsRow w1.heap.size 38 2 (.slice none 0 0) 0 (pairC [])) := ⟨by simp [pairC], .inl ⟨rfl, rfl⟩⟩
  have G0 := TT.out.out.lt
  obtain ⟨g, hg⟩ : ∃ g, w.heap.size = g := ⟨_, rfl⟩
  have HG := Lib.hid hg
  rw [hg] at TT B0 G0 HA HB
  rw [hg]
  clear hg
  go_wp2_with fail
  go_loopw [6, 7, 8] (fun v zi zj wr => ∃ (i j : Nat) (d : List (Nat × Nat)), i ≤ m ∧ j ≤ n ∧ zi = .int .i64 i ∧ zj = .int .i64 j ∧ lcsM xs ys 0 0 = d ++ lcsM xs ys i j ∧ d.length ≤ i ∧ wr.ownsRow w1.heap.size 38 2 v d.length (pairC d) ∧ Below w1.heap.size w1 wr) (fun _ zi zj _ => (m - (intOf zi).toNat) + (n - (intOf zj).toNat))
  case atStart => exact ⟨0, 0, [], by omega, by omega, rfl, rfl, rfl, by simp, O0.out, Below.refl _ _⟩
  case round =>
    obtain ⟨i, j, d, hi, hj, rfl, rfl, hd, hdl, hown, hbl⟩ := hrel
    clear O0
    have D := Lib.hid hd
    have O := Lib.hid hown
    have B1 := Lib.hid hbl
    clear hd hown hbl
    by_cases hi1 : i < m
    · by_cases hj1 : j < n
      · obtain ⟨sa, oa, u, rfl, hsa, hu, hca⟩ := HA.out.at_ hi1
        obtain ⟨sb, ob, u', rfl, hsb, hu', hcb⟩ := HB.out.at_ hj1
        have hxi : i < xs.length := by rw [Hm.out]; exact hi1
        have hyj : j < ys.length := by rw [Hn.out]; exact hj1
        have ux : u = .string xs[i] := by rw [List.getElem?_map, List.getElem?_eq_getElem hxi] at hu; simpa using hu.symm
        have uy : u' = .string ys[j] := by rw [List.getElem?_map, List.getElem?_eq_getElem hyj] at hu'; simpa using hu'.symm
        subst ux uy
        clear hu hu'
        have T1 := TT.out.below B1.out (by omega)
        have d0 := T1.co (p := i) (by omega) (by omega)
        have d1 := T1.co (p := i + 1) (by omega) (by omega)
        have d3 := T1.cr (p := i + 1) (q := j) (by omega) (by omega)
        have d4 := T1.cr (p := i) (q := j + 1) (by omega) (by omega)
        have hca' : wr.cell? ⟨sa, oa + i, none⟩ = some (.string xs[i]) := by rw [B1.out.cell (p := ⟨sa, oa + i, none⟩) (by show sa < w1.heap.size; omega), B0.out.cell (p := ⟨sa, oa + i, none⟩) hsa]; exact hca
        have hcb' : wr.cell? ⟨sb, ob + j, none⟩ = some (.string ys[j]) := by rw [B1.out.cell (p := ⟨sb, ob + j, none⟩) (by show sb < w1.heap.size; omega), B0.out.cell (p := ⟨sb, ob + j, none⟩) hsb]; exact hcb
        have i0 : (0 : Int) ≤ (i : Int) := by omega
        have i1 : (i : Int) < (m : Int) := by omega
        have j0 : (0 : Int) ≤ (j : Int) := by omega
        have j1 : (j : Int) < (n : Int) := by omega
        have X1 : Hid (∀ he : xs[i] = ys[j], lcsM xs ys 0 0 = (d ++ [(i, j)]) ++ lcsM xs ys (i + 1) (j + 1)) := fun he => by rw [D.out, lcsM_eq hxi hyj he]; simp
        have X2 : Hid (∀ he : xs[i] ≠ ys[j], lcsT xs ys i (j + 1) ≤ lcsT xs ys (i + 1) j → lcsM xs ys 0 0 = d ++ lcsM xs ys (i + 1) j) := fun he hg => by rw [D.out, lcsM_down hxi hyj he hg]
        have X3 : Hid (∀ he : xs[i] ≠ ys[j], ¬ lcsT xs ys i (j + 1) ≤ lcsT xs ys (i + 1) j → lcsM xs ys 0 0 = d ++ lcsM xs ys i (j + 1)) := fun he hg => by rw [D.out, lcsM_right hxi hyj he hg]
        clear hca hcb T1 D
        generalize lcsT xs ys (i + 1) j = v10 at *
        generalize lcsT xs ys i (j + 1) = v01 at *
        generalize xs[i] = s at *
        generalize ys[j] = t at *
        by_cases he : s = t
        · subst he
          have D2 := Lib.hid (X1.out rfl)
          clear X1 X2 X3
          have hlen : d.length ≤ 100 := by omega
          go_wp2_with fail
          go_quiet (fail)
          have O5 := Lib.hid (own_drewN O.out nq)
          have B5 := Lib.hid (below_drewN B1.out nq)
          clear O B1 d0 d1 d3 d4 hca' hcb'
          generalize wr.drewN nq = w5 at *
          go_wp2_with (at_builtin; refine wpList_push pairSl O5.out [.int .i64 (i : Int), .int .i64 (j : Int)] rfl (by simp [Value.oneCell']) B5.out.size (by omega) (by unfold maxLen; omega) (by rfl) (by rfl) (by rfl) ?_; intro v1 w2 own1 bel1)
          go_roundw
          case rel => exact ⟨i + 1, j + 1, d ++ [(i, j)], by omega, by omega, by go_num, by go_num, D2.out, by simp; omega, by rw [pairC_snoc, List.length_append]; exact own1, B5.out.trans bel1⟩
          case measure => simp [intOf]; omega
        · have hd : (s.toList == t.toList) = false := str_ne he
          by_cases hge : v01 ≤ v10
          · have D2 := Lib.hid (X2.out he hge)
            clear X1 X2 X3
            go_wp2_with fail
            go_quiet (fail)
            go_wp2_with fail
            go_quiet (fail)
            go_wp2
            go_roundw
            case rel => exact ⟨i + 1, j, d, by omega, by omega, by go_num, rfl, D2.out, by omega, O.out, below_drewN B1.out _⟩
            case measure => simp [intOf]; omega
          · have D2 := Lib.hid (X3.out he hge)
            have hgd : decide (v01 ≤ v10) = false := decide_eq_false hge
            clear X1 X2 X3
            go_wp2_with fail
            go_quiet (fail)
            go_wp2_with fail
            go_quiet (fail)
            go_wp2
            go_roundw
            case rel => exact ⟨i, j + 1, d, by omega, by omega, rfl, by go_num, D2.out, by omega, O.out, below_drewN B1.out _⟩
            case measure => simp [intOf]; omega
      · have hE : Hid (lcsM xs ys 0 0 = d) := by rw [Hid, D.out, lcsM_end (by rw [Hn.out]; omega)]; simp
        obtain ⟨A', c, hv, hnc, hsl⟩ := Sl.of_own O.out
        subst hv
        have HS := Lib.hid hsl
        clear hsl D
        have hjd : decide ((j : Int) < (n : Int)) = false := decide_eq_false (by omega)
        go_wp2
        go_ret
        rw [hE.out]
        exact ⟨A', c, rfl, hnc, HS.out, ret_below HG.out B0.out B1.out⟩
    · have hE : Hid (lcsM xs ys 0 0 = d) := by rw [Hid, D.out, lcsM_end (by rw [Hm.out]; omega)]; simp
      obtain ⟨A', c, hv, hnc, hsl⟩ := Sl.of_own O.out
      subst hv
      have HS := Lib.hid hsl
      clear hsl D
      have hjd : decide ((i : Int) < (m : Int)) = false := decide_eq_false (by omega)
      go_wp2
      go_ret
      rw [hE.out]
      exact ⟨A', c, rfl, hnc, HS.out, ret_below HG.out B0.out B1.out⟩

end Go.Proofs.Ytlebhalaodmkhaa
