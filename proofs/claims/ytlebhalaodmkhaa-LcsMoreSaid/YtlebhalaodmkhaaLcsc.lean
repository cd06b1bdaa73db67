/- The table of what two lists have in common: the reference's. -/
import Derived.Test.YtlebhalaodmkhaaLcsb
namespace Go.Proofs.Ytlebhalaodmkhaa
open Go.RowKit

set_option maxRecDepth 100000 in
set_option maxHeartbeats 2000000 in
theorem rtable_any (xs ys : List ByteArray) (A B : Option Addr) (ca cb : Nat) (w : World) (ha : Sl w w.heap.size 1 A xs.length (xs.map Value.string)) (hb : Sl w w.heap.size 1 B ys.length (ys.map Value.string)) (hm : xs.length ≤ 100) (hn : ys.length ≤ 100) :
    Calls Try.prog 45 #[.slice A xs.length ca, .slice B ys.length cb] w (RetTab w xs ys) := by
  have HA := Lib.hid ha
  have HB := Lib.hid hb
  have MK1 := fun W => mkRows xs.length (by omega) W
  have MK2 := fun W => mkInts ys.length (by omega) W
  generalize hm' : xs.length = m at *
  generalize hn' : ys.length = n at *
  have Hm := Lib.hid hm'
  have Hn := Lib.hid hn'
  clear hm' hn' ha hb
  have T0 : Hid (TabAt (w.alloc (.cells (Array.replicate (m + 1) (Value.slice none 0 0)) 44)) w.heap.size m n 0 (fun _ _ => 0)) := by
    refine ⟨?_, fun p hp => by omega⟩
    rw [outC_zero]; exact Blk.new _ _ _
  have B0 : Hid (Below w.heap.size w (w.alloc (.cells (Array.replicate (m + 1) (Value.slice none 0 0)) 44))) := (Below.refl _ _).alloc (Nat.le_refl _) _
  go_enter Try.func45, Try.ntmps45
  go_wp2
  have S0 : Hid ((w.alloc (.cells (Array.replicate (m + 1) (Value.slice none 0 0)) 44)).heap.size = w.heap.size + 1) := by rw [Hid]; simp
  generalize (w.alloc (.cells (Array.replicate (m + 1) (Value.slice none 0 0)) 44)) = w1 at *
  have HA' : Hid (Sl w1 w.heap.size 1 A m (xs.map Value.string)) := HA.out.below B0.out (Nat.le_refl _)
  have HB' : Hid (Sl w1 w.heap.size 1 B n (ys.map Value.string)) := HB.out.below B0.out (Nat.le_refl _)
  clear HA HB
  generalize hg : w.heap.size = g at *
  have HG := Lib.hid hg
  clear hg
  go_loopw [6] (fun z wr => ∃ k : Nat, k ≤ m + 1 ∧ z = .int .i64 k ∧ TabAt wr g m n k (fun _ _ => 0) ∧ wr.heap.size = g + 1 + k ∧ Below g w1 wr) (fun z _ => m + 1 - (intOf z).toNat)
  case atStart => exact ⟨0, by omega, rfl, T0.out, S0.out, Below.refl _ _⟩
  case round =>
    obtain ⟨k, hk, rfl, t0, s0, b0⟩ := hrel
    clear T0 S0
    have T0 := Lib.hid t0
    have S0 := Lib.hid s0
    have B1 := Lib.hid b0
    clear t0 s0 b0
    by_cases hlt : k < m + 1
    · have c1 := T0.out.out.cell k
      rw [outC_get hlt, if_neg (by omega)] at c1
      have f1 := T0.out.out.fr k
      have hb0 : (0 : Int) ≤ (k : Int) := by omega
      have hb1 : (k : Int) < (m : Int) + 1 := by omega
      have lt1 := T0.out.out.lt
      go_wp2
      go_roundw
      case rel => exact ⟨k + 1, by omega, by go_num, TabAt.more T0.out S0.out, by simp [World.setCell, S0.out]; omega, (B1.out.setCell (p := ⟨g, k, none⟩) (Nat.le_refl _) _).alloc (by simp [World.setCell, S0.out]; omega) _⟩
      case measure => simp [intOf]; omega
    · have hk' : k = m + 1 := by omega
      subst hk'
      have HA := Lib.hid (HA'.out.below B1.out (Nat.le_refl _))
      have HB := Lib.hid (HB'.out.below B1.out (Nat.le_refl _))
      have T1 : Hid (TabAt wr g m n (m + 1) (fillT xs ys 0 0)) := T0.out.congr (fun p q _ _ => by rw [fillT_zero])
      clear T0 HA' HB' S0
      go_wp2
      obtain ⟨w2, rfl⟩ : ∃ w2 : World, w2 = wr := ⟨_, rfl⟩
      go_loopw [7] (fun z wr' => ∃ x : Nat, x ≤ m ∧ z = .int .i64 ((m : Int) - 1 - (x : Int)) ∧ TabAt wr' g m n (m + 1) (fillT xs ys x 0) ∧ Below g w2 wr') (fun z _ => (intOf z + 1).toNat)
      case atStart => exact ⟨0, by omega, by go_num, T1.out, Below.refl _ _⟩
      case round =>
        obtain ⟨x, hx, hz, t1, b1⟩ := hrel
        clear T1
        have T1 := Lib.hid t1
        have B2 := Lib.hid b1
        clear t1 b1
        by_cases hlt : x < m
        · obtain ⟨i, hi⟩ : ∃ i, i + x + 1 = m := ⟨m - 1 - x, by omega⟩
          have HI := Lib.hid hi
          have e1 : (m : Int) - 1 - (x : Int) = (i : Int) := by omega
          rw [e1] at hz
          subst hz
          have E1 := Lib.hid e1
          clear hi e1
          have hi1 : i < m := by have := HI.out; omega
          go_wp2
          obtain ⟨w3, rfl⟩ : ∃ w3 : World, w3 = wr := ⟨_, rfl⟩
          go_loopw [8] (fun z wr' => ∃ y : Nat, y ≤ n ∧ z = .int .i64 ((n : Int) - 1 - (y : Int)) ∧ TabAt wr' g m n (m + 1) (fillT xs ys x y) ∧ Below g w2 wr') (fun z _ => (intOf z + 1).toNat)
          case atStart => exact ⟨0, by omega, by go_num, T1.out, B2.out⟩
          case round =>
            obtain ⟨y, hy, hz, t1, b1⟩ := hrel
            clear T1 B2
            have T1 := Lib.hid t1
            have B2 := Lib.hid b1
            clear t1 b1
            by_cases hly : y < n
            · obtain ⟨j, hj⟩ : ∃ j, j + y + 1 = n := ⟨n - 1 - y, by omega⟩
              have HJ := Lib.hid hj
              have e2 : (n : Int) - 1 - (y : Int) = (j : Int) := by omega
              rw [e2] at hz
              subst hz
              have E2 := Lib.hid e2
              have hj1 : j < n := by omega
              clear hj e2
              obtain ⟨sa, oa, u, rfl, hsa, hu, hca⟩ := HA.out.at_ hi1
              obtain ⟨sb, ob, u', rfl, hsb, hu', hcb⟩ := HB.out.at_ hj1
              have hxi : i < xs.length := by rw [Hm.out]; exact hi1
              have hyj : j < ys.length := by rw [Hn.out]; exact hj1
              have ux : u = .string xs[i] := by rw [List.getElem?_map, List.getElem?_eq_getElem hxi] at hu; simpa using hu.symm
              have uy : u' = .string ys[j] := by rw [List.getElem?_map, List.getElem?_eq_getElem hyj] at hu'; simpa using hu'.symm
              subst ux uy
              clear hu hu'
              have HX : Hid (∀ he : xs[i] = ys[j], lcsT xs ys i j = lcsT xs ys (i + 1) (j + 1) + 1) := fun he => lcsT_eq hxi hyj he
              have HY : Hid (∀ he : xs[i] ≠ ys[j], lcsT xs ys i j = max (lcsT xs ys (i + 1) j) (lcsT xs ys i (j + 1))) := fun he => lcsT_ne hxi hyj he
              have HS := Lib.hid (fun p q => fillT_step xs ys (x := x) (y := y) (i := i) (j := j) (by rw [Hm.out]; exact HI.out) (by rw [Hn.out]; exact HJ.out) p q)
              have HO := Lib.hid (fillT_old xs ys (x := x) (y := y) (i := i) (j := j) (by rw [Hm.out]; exact HI.out) (by rw [Hn.out]; exact HJ.out))
              have l0 := lcsT_le xs ys i j
              have l1 := lcsT_le xs ys (i + 1) (j + 1)
              have l2 := lcsT_le xs ys (i + 1) j
              have l3 := lcsT_le xs ys i (j + 1)
              have l4 := lcsT_max hxi hyj
              have d0 := T1.out.co (p := i) (by omega) (by omega)
              have d1 := T1.out.co (p := i + 1) (by omega) (by omega)
              have d2 := T1.out.cr (p := i + 1) (q := j + 1) (by omega) (by omega)
              have d3 := T1.out.cr (p := i + 1) (q := j) (by omega) (by omega)
              have d4 := T1.out.cr (p := i) (q := j + 1) (by omega) (by omega)
              have d5 := T1.out.cr (p := i) (q := j) (by omega) (by omega)
              have d6 := T1.out.fr (p := i) (q := j) (by omega)
              rw [HO.out.1] at d2
              rw [HO.out.2.1] at d3
              rw [HO.out.2.2] at d4
              have hca' : wr.cell? ⟨sa, oa + i, none⟩ = some (.string xs[i]) := by rw [B2.out.cell (p := ⟨sa, oa + i, none⟩) hsa]; exact hca
              have hcb' : wr.cell? ⟨sb, ob + j, none⟩ = some (.string ys[j]) := by rw [B2.out.cell (p := ⟨sb, ob + j, none⟩) hsb]; exact hcb
              clear hca hcb HO
              have hm1 : xs.length ≤ 100 := by rw [Hm.out]; exact hm
              generalize lcsT xs ys i j = v at *
              generalize lcsT xs ys (i + 1) (j + 1) = v11 at *
              generalize lcsT xs ys (i + 1) j = v10 at *
              generalize lcsT xs ys i (j + 1) = v01 at *
              generalize xs[i] = s at *
              generalize ys[j] = t at *
              have q1 : (0 : Int) ≤ (v11 : Int) := by omega
              have q2 : (v11 : Int) ≤ 100 := by omega
              generalize fillT xs ys x y i j = old at *
              have i0 : (0 : Int) ≤ (i : Int) := by omega
              have i1 : (i : Int) < (m : Int) := by omega
              have j0 : (0 : Int) ≤ (j : Int) := by omega
              have j1 : (j : Int) < (n : Int) := by omega
              obtain ⟨l4, l5⟩ := l4
              have CS : (s = t ∧ v = v11 + 1 ∧ v10 < v01 ∧ v01 < v11 + 1) ∨ (s = t ∧ v = v11 + 1 ∧ v10 < v01 ∧ v11 + 1 ≤ v01 ∧ v01 ≤ v11 + 1) ∨ (s = t ∧ v = v11 + 1 ∧ ¬ v10 < v01 ∧ v10 < v11 + 1) ∨ (s = t ∧ v = v11 + 1 ∧ ¬ v10 < v01 ∧ v11 + 1 ≤ v10 ∧ v10 ≤ v11 + 1) ∨ (s ≠ t ∧ v = v01 ∧ v10 < v01) ∨ (s ≠ t ∧ v = v10 ∧ ¬ v10 < v01) := by
                by_cases he : s = t
                · have := HX.out he; by_cases h : v10 < v01
                  · by_cases h' : v01 < v11 + 1
                    · exact .inl ⟨he, this, h, h'⟩
                    · exact .inr (.inl ⟨he, this, h, by omega, by omega⟩)
                  · by_cases h' : v10 < v11 + 1
                    · exact .inr (.inr (.inl ⟨he, this, h, h'⟩))
                    · exact .inr (.inr (.inr (.inl ⟨he, this, h, by omega, by omega⟩)))
                · have := HY.out he; by_cases h : v10 < v01
                  · exact .inr (.inr (.inr (.inr (.inl ⟨he, by omega, h⟩))))
                  · exact .inr (.inr (.inr (.inr (.inr ⟨he, by omega, h⟩))))
              clear HX HY l0 l1 l2 l3 l4 l5
              have R : ∀ (k : Nat) (u : Int), (v : Int) = u → TabAt ((wr.drewN k).setCell ⟨g + 1 + i, j, none⟩ (.int .i64 u)) g m n (m + 1) (fillT xs ys x (y + 1)) ∧ Below g w2 ((wr.drewN k).setCell ⟨g + 1 + i, j, none⟩ (.int .i64 u)) := by
                intro k u hu
                refine ⟨((T1.out.drewN _).set (p := i) (q := j) (v := u) (by omega)).congr (fun p q _ _ => by rw [← HS.out p q, hu]), below_setCell (below_drewN B2.out _) (by show g ≤ g + 1 + i; omega)⟩
              have RR := Lib.hid R
              clear R
              rcases CS with ⟨rfl, hv, h1, h2⟩ | ⟨rfl, hv, h1, h2, h3⟩ | ⟨rfl, hv, h1, h2⟩ | ⟨rfl, hv, h1, h2, h3⟩ | ⟨he, hv, h1⟩ | ⟨he, hv, h1⟩
              · have HV := Lib.hid hv
                clear hv
                have h1' : (v10 : Int) < (v01 : Int) := by omega
                have h2' : (v01 : Int) < (v11 : Int) + 1 := by omega
                go_wp2_with fail
                go_quiet (fail)
                go_wp2
                go_roundw
                case rel => exact ⟨y + 1, by omega, by have := E2.out; go_num, RR.out _ _ (by have := HV.out; omega)⟩
                case measure => simp [intOf]
              · have HV := Lib.hid hv
                clear hv
                have h1' : (v10 : Int) < (v01 : Int) := by omega
                have h2' : decide ((v01 : Int) < (v11 : Int) + 1) = false := decide_eq_false (by omega)
                go_wp2_with fail
                go_quiet (fail)
                go_wp2
                go_roundw
                case rel => exact ⟨y + 1, by omega, by have := E2.out; go_num, RR.out _ _ (by have := HV.out; omega)⟩
                case measure => simp [intOf]
              · have HV := Lib.hid hv
                clear hv
                have h1' : decide (v10 < v01) = false := decide_eq_false h1
                have h2' : (v10 : Int) < (v11 : Int) + 1 := by omega
                go_wp2_with fail
                go_quiet (fail)
                go_wp2
                go_roundw
                case rel => exact ⟨y + 1, by omega, by have := E2.out; go_num, RR.out _ _ (by have := HV.out; omega)⟩
                case measure => simp [intOf]
              · have HV := Lib.hid hv
                clear hv
                have h1' : decide (v10 < v01) = false := decide_eq_false h1
                have h2' : decide ((v10 : Int) < (v11 : Int) + 1) = false := decide_eq_false (by omega)
                go_wp2_with fail
                go_quiet (fail)
                go_wp2
                go_roundw
                case rel => exact ⟨y + 1, by omega, by have := E2.out; go_num, RR.out _ _ (by have := HV.out; omega)⟩
                case measure => simp [intOf]
              · have HV := Lib.hid hv
                clear hv
                have h1' : (v10 : Int) < (v01 : Int) := by omega
                have hd : (s.toList == t.toList) = false := str_ne he
                go_wp2_with fail
                go_quiet (fail)
                go_wp2
                go_roundw
                case rel => exact ⟨y + 1, by omega, by have := E2.out; go_num, RR.out _ _ (by have := HV.out; omega)⟩
                case measure => simp [intOf]
              · have HV := Lib.hid hv
                clear hv
                have h1' : decide (v10 < v01) = false := decide_eq_false h1
                have hd : (s.toList == t.toList) = false := str_ne he
                go_wp2_with fail
                go_quiet (fail)
                go_wp2
                go_roundw
                case rel => exact ⟨y + 1, by omega, by have := E2.out; go_num, RR.out _ _ (by have := HV.out; omega)⟩
                case measure => simp [intOf]
            · have hy' : y = n := by omega
              subst hy'
              rw [show (y : Int) - 1 - (y : Int) = -1 by omega] at hz
              subst hz
              go_wp2
              go_roundw
              case rel => exact ⟨x + 1, by omega, by have := E1.out; go_num, T1.out.congr (fun p q _ hq => by rw [← Hn.out]; exact fillT_next xs ys x p q (by rw [Hn.out]; exact hq)), B2.out⟩
              case measure => simp [intOf]
        · have hx' : x = m := by omega
          subst hx'
          rw [show (x : Int) - 1 - (x : Int) = -1 by omega] at hz
          subst hz
          go_wp2
          go_ret
          unfold RetTab
          rw [Hm.out, Hn.out, HG.out]
          refine ⟨rfl, ?_, B0.out.trans (B1.out.trans B2.out)⟩
          exact T1.out.congr (fun p q _ _ => by rw [← Hm.out]; exact fillT_all xs ys p q)
end Go.Proofs.Ytlebhalaodmkhaa
