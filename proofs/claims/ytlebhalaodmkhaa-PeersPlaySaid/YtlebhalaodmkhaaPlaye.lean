/- The document's peers: who is drawn; that all is as the program has it. -/
import Derived.Test.YtlebhalaodmkhaaPlayd
namespace Go.Proofs.Ytlebhalaodmkhaa
open Go.RowKit

def drawL (L : List Int) (x : Int) : Int := if L.length = 0 then 0 else L.getD (x % (L.length : Int)).toNat 0
set_option maxHeartbeats 1000000 in
theorem rdraw_any (L : List Int) (A A' : Option Addr) (m' c c' : Nat) (p x : Int) (w : World) (hL : Sl w w.heap.size 1 A L.length (L.map (Value.int .u8))) (hl : L.length ≤ 100) (hx : 0 ≤ x ∧ x ≤ 18446744073709551615) :
    Calls Try.prog 41 #[refC A A' L.length m' c c' p, .int .u64 x] w (RetB w (.int .u8 (drawL L x))) := by
  have HL := Lib.hid (hL.up (below_new w (refO A A' L.length m' c c' p)) (Nat.le_refl _))
  have B0 := Lib.hid (below_new w (refO A A' L.length m' c c' p))
  have K0 := Lib.hid (Blk.new w 46 #[.slice A L.length c, .slice A' m' c', .int .i64 p])
  have F : Hid (drawL L x = if L.length = 0 then 0 else L.getD (x % (L.length : Int)).toNat 0) := rfl
  generalize drawL L x = r at *
  clear hL
  obtain ⟨x0, x1⟩ := hx
  by_cases h0 : L.length = 0
  · have G : Hid (r = 0) := by rw [Hid, F.out, if_pos h0]
    have hd : ((L.length : Int) == 0) = true := by simp [h0]
    have k0 := K0.out.cell 0
    simp at k0
    clear F h0
    go_enter Try.func41, Try.ntmps41
    go_wp2
    go_ret
    exact ⟨ret_int G.out.symm, B0.out⟩
  · have hm0 : 0 ≤ x % (L.length : Int) := Int.emod_nonneg _ (by omega)
    have hm1 : x % (L.length : Int) < (L.length : Int) := Int.emod_lt_of_pos _ (by omega)
    obtain ⟨j, hj⟩ : ∃ j : Nat, x % (L.length : Int) = (j : Int) := ⟨(x % (L.length : Int)).toNat, by omega⟩
    have hjl : j < L.length := by omega
    have G : Hid (r = L.getD j 0) := by rw [Hid, F.out, if_neg h0, hj, Int.toNat_natCast]
    obtain ⟨sb, so, u, rfl, hsb, hu, hc⟩ := HL.out.at_ hjl
    have hku : u = .int .u8 (L.getD j 0) := by
      rw [List.getElem?_map] at hu
      obtain ⟨v, h1, h2⟩ := Option.map_eq_some_iff.1 hu
      rw [List.getD_eq_getElem?_getD, h1]; exact h2.symm
    subst hku
    generalize L.getD j 0 = v at *
    have hd : ((L.length : Int) == 0) = false := by simp [h0]
    have hl0 : (0 : Int) < (L.length : Int) := by omega
    have j0 : (0 : Int) ≤ (j : Int) := by omega
    have j1 : (j : Int) < (L.length : Int) := by omega
    have ht : Int.tmod x (L.length : Int) = (j : Int) := by rw [Int.tmod_eq_emod_of_nonneg x0, hj]
    clear F h0 hm0 hm1 hu
    go_enter Try.func41, Try.ntmps41
    go_wp2_with fail
    generalize (w.alloc (.cells #[.slice (some ⟨sb, so, none⟩) L.length c, .slice A' m' c', .int .i64 p] 46)) = w0 at *
    have k0 := K0.out.cell 0
    simp at k0
    go_quiet (fail)
    go_wp2
    go_ret
    exact ⟨ret_int G.out.symm, below_drewN B0.out _⟩

/-- the program's and the document's -/
theorem peersL_place {sf n : Int} {k : Nat} (h : n ∈ peersL sf k) : ∃ i : Nat, placeL (peersL sf k) n = i ∧ ∃ (hi : i < (peersL sf k).length), (peersL sf k)[i] = n := by
  have hlt : (peersL sf k).findIdx (· == n) < (peersL sf k).length := List.findIdx_lt_length.2 ⟨n, h, by simp⟩
  refine ⟨(peersL sf k).findIdx (· == n), if_pos hlt, hlt, ?_⟩
  have := List.findIdx_getElem (w := hlt)
  simpa using this
theorem peersL_noplace {sf n : Int} {k : Nat} (h : n ∉ peersL sf k) : placeL (peersL sf k) n = -1 := by
  unfold placeL
  rw [if_neg]
  intro hlt
  have := List.findIdx_getElem (w := hlt)
  have e : (peersL sf k)[(peersL sf k).findIdx (· == n)] = n := by simpa using this
  exact h (e ▸ List.getElem_mem hlt)
theorem isL_eq (sf n : Int) (k : Nat) : isL (peersL sf k) n = isP sf k n := by
  unfold isL isP
  by_cases h : n ∈ peersL sf k
  · obtain ⟨i, hi, _⟩ := peersL_place h
    rw [hi, decide_eq_true (by omega), decide_eq_true (peersL_mem.1 h)]
  · rw [peersL_noplace h, decide_eq_false (by omega), decide_eq_false (fun e => h (peersL_mem.2 e))]
/-- the ticks that stand for a peers' waits -/
def ticksL (sf : Int) (k : Nat) (wait : List Int) : List Int := (peersL sf k).map fun n => wait.getD n.toNat 0
theorem ticksL_len (sf : Int) (k : Nat) (wait : List Int) : (ticksL sf k wait).length = (peersL sf k).length := by simp [ticksL]
theorem waitL_eq (sf : Int) (k : Nat) (wait : List Int) (n : Nat) : waitL (peersL sf k) (ticksL sf k wait) n = waitP sf k wait n := by
  unfold waitL waitP
  rw [← isL_eq]
  unfold isL
  by_cases h : (n : Int) ∈ peersL sf k
  · obtain ⟨i, hi, hl, hg⟩ := peersL_place h
    rw [hi, if_pos (by omega), decide_eq_true (by omega), if_pos rfl, Int.toNat_natCast]
    unfold ticksL
    rw [List.getD_eq_getElem?_getD, List.getElem?_map, List.getElem?_eq_getElem hl, hg]; simp
  · rw [peersL_noplace h, if_neg (by omega), decide_eq_false (by omega), if_neg (by simp)]
theorem setT_eq (sf : Int) (k : Nat) (wait : List Int) (n : Nat) (v : Int) (hw : wait.length = 65) (hk : k ≤ 64) : setT (peersL sf k) (ticksL sf k wait) n v = ticksL sf k (setP sf k wait n v) := by
  unfold setT setP
  rw [← isL_eq]
  unfold isL
  by_cases h : (n : Int) ∈ peersL sf k
  · obtain ⟨i, hi, hl, hg⟩ := peersL_place h
    have hm := peersL_mem.1 h
    rw [hi, if_pos (by omega), decide_eq_true (by omega), if_pos rfl, Int.toNat_natCast]
    unfold ticksL
    apply List.ext_getElem
    · simp
    · intro j h1 h2
      have hj : j < (peersL sf k).length := by simpa using h2
      rw [List.getElem_set, List.getElem_map, List.getElem_map, List.getD_eq_getElem?_getD, List.getD_eq_getElem?_getD, List.getElem?_set]
      by_cases e : i = j
      · subst e
        rw [if_pos rfl, hg, Int.toNat_natCast, if_pos rfl, if_pos (by omega)]; rfl
      · rw [if_neg e]
        have hne : n ≠ ((peersL sf k)[j]).toNat := by
          intro he
          have hpj := peersL_mem.1 (List.getElem_mem hj)
          have e1 : (peersL sf k)[j] = (n : Int) := by omega
          have g1 := peersL_get sf k i hl
          have g2 := peersL_get sf k j hj
          rw [hg] at g1
          rw [e1] at g2
          rw [g1] at g2
          split at g2 <;> split at g2 <;> omega
        rw [if_neg hne]
  · rw [peersL_noplace h, if_neg (by omega), decide_eq_false (by omega), if_neg (by simp)]
theorem tickT_eq (sf : Int) (k : Nat) (wait : List Int) (hw : wait.length = 65) (hk : k ≤ 64) : (ticksL sf k wait).map tick1 = ticksL sf k (wait.map tick1) := by
  unfold ticksL
  rw [List.map_map]
  apply List.map_congr_left
  intro n hn
  have hm := peersL_mem.1 hn
  have hl : n.toNat < wait.length := by omega
  simp [List.getD_eq_getElem?_getD, hl]
theorem ticksL_zero (sf : Int) (k : Nat) : ticksL sf k (List.replicate 65 0) = (peersL sf k).map fun _ => 0 := by
  unfold ticksL
  apply List.map_congr_left
  intro n _
  rw [List.getD_eq_getElem?_getD, List.getElem?_replicate]
  split <;> rfl
theorem drawL_eq (sf : Int) (k : Nat) (x : Int) : drawL (peersL sf k) x = drawP sf k x := by
  have hl := peersL_len sf k
  unfold drawL drawP
  by_cases h : (peersL sf k).length = 0
  · rw [if_pos h, if_pos (by omega)]
  · have hm0 : 0 ≤ x % ((peersL sf k).length : Int) := Int.emod_nonneg _ (by omega)
    have hm1 : x % ((peersL sf k).length : Int) < ((peersL sf k).length : Int) := Int.emod_lt_of_pos _ (by omega)
    have hi : (x % ((peersL sf k).length : Int)).toNat < (peersL sf k).length := by omega
    rw [if_neg h, if_neg (by omega), List.getD_eq_getElem?_getD, List.getElem?_eq_getElem hi, ← hl]
    have := peersL_get sf k _ hi
    simp only [Option.getD_some]
    rw [this, Int.toNat_of_nonneg hm0]
end Go.Proofs.Ytlebhalaodmkhaa
