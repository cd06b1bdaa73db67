/- The document's peers: a list of numbers, and of ticks. -/
import Derived.Test.YtlebhalaodmkhaaPeersWaitw
import Derived.Test.YtlebhalaodmkhaaCat
import Derived.Laws.ResultCell
namespace Go.Proofs.Ytlebhalaodmkhaa
open Go.RowKit

/-- where a number stands; -1: nowhere -/
def placeL (L : List Int) (n : Int) : Int := if L.findIdx (· == n) < L.length then (L.findIdx (· == n) : Int) else -1
abbrev refC (A A' : Option Addr) (m m' c c' : Nat) (p : Int) : Value := .agg #[.slice A m c, .slice A' m' c', .int .i64 p]
abbrev refO (A A' : Option Addr) (m m' c c' : Nat) (p : Int) : Obj := .cells #[.slice A m c, .slice A' m' c', .int .i64 p] 46

set_option maxHeartbeats 1000000 in
theorem place_any (L : List Int) (A A' : Option Addr) (m' c c' : Nat) (p n : Int) (w : World) (hL : Sl w w.heap.size 1 A L.length (L.map (Value.int .u8))) (hl : L.length ≤ 100) :
    Calls Try.prog 47 #[refC A A' L.length m' c c' p, .int .u8 n] w (RetB w (.int .i64 (placeL L n))) := by
  have F1 : Hid (∀ k, k < L.length → L[k]? = some n → (∀ j, j < k → ∀ v, L[j]? = some v → v ≠ n) → placeL L n = k) := by
    intro k hk h1 h2
    have e : L.findIdx (· == n) = k := by
      rw [List.findIdx_eq hk]
      refine ⟨by rw [List.getElem?_eq_getElem hk] at h1; simpa using h1, fun j hj => ?_⟩
      have := h2 j hj L[j] (List.getElem?_eq_getElem (by omega))
      simpa using this
    unfold placeL
    rw [e, if_pos hk]
  have F2 : Hid ((∀ j, j < L.length → ∀ v, L[j]? = some v → v ≠ n) → placeL L n = -1) := by
    intro h
    unfold placeL
    rw [if_neg]
    have : L.findIdx (· == n) = L.length := List.findIdx_eq_length.2 fun x hx => by
      obtain ⟨j, hj, rfl⟩ := List.getElem_of_mem hx
      have := h j hj L[j] (List.getElem?_eq_getElem hj)
      simpa using this
    omega
  have HL := Lib.hid (hL.up (below_new w (refO A A' L.length m' c c' p)) (Nat.le_refl _))
  have B0 := Lib.hid (below_new w (refO A A' L.length m' c c' p))
  have K0 := Lib.hid (Blk.new w 46 #[.slice A L.length c, .slice A' m' c', .int .i64 p])
  generalize placeL L n = r at *
  clear hL
  go_enter Try.func47, Try.ntmps47
  go_wp2
  generalize (w.alloc (.cells #[.slice A L.length c, .slice A' m' c', .int .i64 p] 46)) = w0 at *
  have k0 := K0.out.cell 0
  simp at k0
  go_loop [5] (fun z => ∃ k : Nat, k ≤ L.length ∧ z = .int .i64 k ∧ Hid (∀ j, j < k → ∀ v, L[j]? = some v → v ≠ n)) (fun z => L.length - (intOf z).toNat)
  case atStart => exact ⟨0, by omega, rfl, fun j hj => by omega⟩
  case round =>
    obtain ⟨k, hk, rfl, hno⟩ := hrel
    by_cases hlt : k < L.length
    · obtain ⟨sb, so, u, rfl, hsb, hu, hc⟩ := HL.out.at_ hlt
      obtain ⟨v, hv, rfl⟩ : ∃ v, L[k]? = some v ∧ u = .int .u8 v := by
        rw [List.getElem?_map] at hu
        obtain ⟨v, h1, h2⟩ := Option.map_eq_some_iff.1 hu
        exact ⟨v, h1, h2.symm⟩
      have HV := Lib.hid hv
      clear hu hv
      have b0 : (0 : Int) ≤ (k : Int) := by omega
      have b1 : (k : Int) < (L.length : Int) := by omega
      by_cases he : v = n
      · have hd : (v == n) = true := by simpa using he
        have G := Lib.hid (F1.out k hlt (he ▸ HV.out) hno.out)
        clear he
        go_wp2
        go_ret
        exact ⟨ret_int G.out.symm, B0.out⟩
      · have hd : (v == n) = false := by simpa using he
        have NO : Hid (∀ j, j < k + 1 → ∀ v, L[j]? = some v → v ≠ n) := by
          intro j hj v' hv'
          by_cases e : j = k
          · subst e; rw [HV.out] at hv'; injection hv' with hv'; subst hv'; exact he
          · exact hno.out j (by omega) v' hv'
        clear he hno
        go_wp2
        go_round
        case rel => exact ⟨k + 1, by omega, by go_num, NO⟩
        case measure => simp [intOf]; omega
    · have hk' : k = L.length := by omega
      have G := Lib.hid (F2.out (hk' ▸ hno.out))
      subst hk'
      go_wp2
      go_ret
      exact ⟨ret_int G.out.symm, B0.out⟩

theorem placeL_lt {L : List Int} {n : Int} : placeL L n = -1 ∨ ∃ k : Nat, k < L.length ∧ placeL L n = k := by
  unfold placeL
  split
  · exact .inr ⟨_, by assumption, rfl⟩
  · exact .inl rfl
def isL (L : List Int) (n : Int) : Bool := decide (0 ≤ placeL L n)
def waitL (L T : List Int) (n : Int) : Int := if 0 ≤ placeL L n then T.getD (placeL L n).toNat 0 else 0

set_option maxHeartbeats 1000000 in
theorem ris_any (L : List Int) (A A' : Option Addr) (m' c c' : Nat) (p n : Int) (w : World) (hL : Sl w w.heap.size 1 A L.length (L.map (Value.int .u8))) (hl : L.length ≤ 100) :
    Calls Try.prog 40 #[refC A A' L.length m' c c' p, .int .u8 n] w (RetB w (.bool (isL L n))) := by
  have HL := Lib.hid (hL.up (below_new w (refO A A' L.length m' c c' p)) (Nat.le_refl _))
  have B0 := Lib.hid (below_new w (refO A A' L.length m' c c' p))
  have K0 := Lib.hid (Blk.new w 46 #[.slice A L.length c, .slice A' m' c', .int .i64 p])
  have HP := Lib.hid (fun w1 h => place_any L A A' m' c c' p n w1 h hl)
  have F : Hid (isL L n = decide (0 ≤ placeL L n)) := rfl
  generalize placeL L n = r at *
  clear hL
  go_enter Try.func40, Try.ntmps40
  go_wp2_with fail
  refine (HP.out _ HL.out).mono ?_
  rintro e w1 ⟨rfl, b1⟩
  go_wp2
  go_ret
  exact ⟨ret_bool F.out.symm, ext_trans B0.out b1⟩

set_option maxHeartbeats 1000000 in
theorem rwait_any (L T : List Int) (A A' : Option Addr) (c c' : Nat) (p n : Int) (w : World) (hL : Sl w w.heap.size 1 A L.length (L.map (Value.int .u8))) (hT : Sl w w.heap.size 1 A' T.length (T.map (Value.int .i64))) (hlt : L.length = T.length) (hl : L.length ≤ 100) :
    Calls Try.prog 37 #[refC A A' L.length T.length c c' p, .int .u8 n] w (RetB w (.int .i64 (waitL L T n))) := by
  have HL := Lib.hid (hL.up (below_new w (refO A A' L.length T.length c c' p)) (Nat.le_refl _))
  have HT := Lib.hid (hT.up (below_new w (refO A A' L.length T.length c c' p)) (Nat.le_refl _))
  have B0 := Lib.hid (below_new w (refO A A' L.length T.length c c' p))
  have K0 := Lib.hid (Blk.new w 46 #[.slice A L.length c, .slice A' T.length c', .int .i64 p])
  have HP := Lib.hid (fun w1 h => place_any L A A' T.length c c' p n w1 h hl)
  have F : Hid (waitL L T n = if 0 ≤ placeL L n then T.getD (placeL L n).toNat 0 else 0) := rfl
  have HK := Lib.hid (placeL_lt (L := L) (n := n))
  have HLT := Lib.hid hlt
  generalize placeL L n = r at *
  clear hL hT hlt
  rcases HK.out with rfl | ⟨k, hk, rfl⟩
  · have G : Hid (waitL L T n = 0) := by rw [Hid, F.out]; rfl
    clear HK F
    go_enter Try.func37, Try.ntmps37
    go_wp2_with fail
    refine (HP.out _ HL.out).mono ?_
    rintro e w1 ⟨rfl, b1⟩
    go_wp2
    go_ret
    exact ⟨ret_int G.out.symm, ext_trans B0.out b1⟩
  · have G : Hid (waitL L T n = T.getD k 0) := by rw [Hid, F.out, if_pos (by omega)]; simp
    clear HK F
    obtain ⟨sb, so, u, rfl, hsb, hu, hc⟩ := HT.out.at_ (k := k) (by have := HLT.out; omega)
    have hku : u = .int .i64 (T.getD k 0) := by
      rw [List.getElem?_map] at hu
      obtain ⟨v, h1, h2⟩ := Option.map_eq_some_iff.1 hu
      rw [List.getD_eq_getElem?_getD, h1]; exact h2.symm
    subst hku
    generalize T.getD k 0 = v at *
    have b0 : (0 : Int) ≤ (k : Int) := by omega
    have b1 : (k : Int) < (T.length : Int) := by have := HLT.out; omega
    have nd : decide ((k : Int) < 0) = false := decide_eq_false (by omega)
    clear hu
    go_enter Try.func37, Try.ntmps37
    go_wp2_with fail
    generalize (w.alloc (.cells #[.slice A L.length c, .slice (some ⟨sb, so, none⟩) T.length c', .int .i64 p] 46)) = w0 at *
    refine (HP.out _ HL.out).mono ?_
    rintro e w1 ⟨rfl, hb⟩
    have k1 := (K0.out.ext hb).cell 1
    simp at k1
    have hc' : w1.cell? ⟨sb, so + k, none⟩ = some (.int .i64 v) := by rw [hb.cell (p := ⟨sb, so + k, none⟩) hsb]; exact hc
    clear hc
    have B1 := Lib.hid (ext_trans B0.out hb)
    clear hb
    go_wp2
    go_ret
    exact ⟨ret_int G.out.symm, B1.out⟩

set_option maxHeartbeats 1000000 in
theorem rfree_any (L T : List Int) (A A' : Option Addr) (c c' : Nat) (p n : Int) (w : World) (hL : Sl w w.heap.size 1 A L.length (L.map (Value.int .u8))) (hT : Sl w w.heap.size 1 A' T.length (T.map (Value.int .i64))) (hlt : L.length = T.length) (hl : L.length ≤ 100) :
    Calls Try.prog 39 #[refC A A' L.length T.length c c' p, .int .u8 n] w (RetB w (.bool (isL L n && decide (waitL L T n = 0)))) := by
  have HL := Lib.hid (hL.up (below_new w (refO A A' L.length T.length c c' p)) (Nat.le_refl _))
  have HT := Lib.hid (hT.up (below_new w (refO A A' L.length T.length c c' p)) (Nat.le_refl _))
  have B0 := Lib.hid (below_new w (refO A A' L.length T.length c c' p))
  have K0 := Lib.hid (Blk.new w 46 #[.slice A L.length c, .slice A' T.length c', .int .i64 p])
  have HI := Lib.hid (fun w1 h => ris_any L A A' T.length c c' p n w1 h hl)
  have HW := Lib.hid (fun w1 h h' => rwait_any L T A A' c c' p n w1 h h' hlt hl)
  generalize isL L n = i at *
  generalize waitL L T n = v at *
  clear hL hT hlt
  cases i
  · go_enter Try.func39, Try.ntmps39
    go_wp2_with fail
    refine (HI.out _ HL.out).mono ?_
    rintro e w1 ⟨rfl, b1⟩
    go_wp2
    go_ret
    exact ⟨rfl, ext_trans B0.out b1⟩
  · have CS : (v = 0 ∨ ¬ v = 0) := by omega
    rcases CS with rfl | hv
    all_goals
      go_enter Try.func39, Try.ntmps39
      go_wp2_with fail
      generalize (w.alloc (.cells #[.slice A L.length c, .slice A' T.length c', .int .i64 p] 46)) = w0 at *
      refine (HI.out _ HL.out).mono ?_
      rintro e w1 ⟨rfl, hb⟩
      have k0 := (K0.out.ext hb).cell 0
      have k1 := (K0.out.ext hb).cell 1
      have k2 := (K0.out.ext hb).cell 2
      simp at k0 k1 k2
      have HL1 := Lib.hid (HL.out.up hb (Nat.le_refl _))
      have HT1 := Lib.hid (HT.out.up hb (Nat.le_refl _))
      have B1 := Lib.hid (ext_trans B0.out hb)
      clear hb
      go_wp2_with fail
      refine (HW.out _ HL1.out HT1.out).mono ?_
      rintro e w2 ⟨rfl, hb⟩
      go_wp2
      go_ret
      exact ⟨ret_bool (by simp [*]), ext_trans B1.out hb⟩
end Go.Proofs.Ytlebhalaodmkhaa
