/- The document's peers: a tick; who is there at first; who is drawn. -/
import Derived.Test.YtlebhalaodmkhaaPlayb
namespace Go.Proofs.Ytlebhalaodmkhaa
open Go.RowKit

theorem tick1_pos {v : Int} (h : 0 < v) : tick1 v = v - 1 := by unfold tick1; rw [if_neg (by omega)]
theorem tick1_not {v : Int} (h : ¬ 0 < v) : tick1 v = 0 := by unfold tick1; rw [if_pos (by omega)]

set_option maxRecDepth 100000 in
set_option maxHeartbeats 2000000 in
theorem rtick_any (L T : List Int) (A A' : Option Addr) (c c' : Nat) (p : Int) (w : World) (hT : Sl w w.heap.size 1 A' T.length (T.map (Value.int .i64))) (hlt : L.length = T.length) (hl : L.length ≤ 100) (hTb : ∀ v ∈ T, 0 ≤ v ∧ v ≤ 8) :
    Calls Try.prog 35 #[refC A A' L.length T.length c c' p] w (RetT w A L.length c p (T.map tick1)) := by
  have K0 : Hid (Blk ((w.alloc (.cells #[.slice A L.length c, .slice A' T.length c', .int .i64 p] 46)).alloc (.cells #[.slice none 0 0, .slice none 0 0, .int .i64 0] 46)) w.heap.size 46 #[.slice A L.length c, .slice A' T.length c', .int .i64 p]) := (Blk.new _ _ _).alloc _
  have K1 : Hid (Blk ((w.alloc (.cells #[.slice A L.length c, .slice A' T.length c', .int .i64 p] 46)).alloc (.cells #[.slice none 0 0, .slice none 0 0, .int .i64 0] 46)) (w.heap.size + 1) 46 #[.slice none 0 0, .slice none 0 0, .int .i64 0]) := Blk.newAt (by simp) _ _
  have B0 : Hid (Below w.heap.size w ((w.alloc (.cells #[.slice A L.length c, .slice A' T.length c', .int .i64 p] 46)).alloc (.cells #[.slice none 0 0, .slice none 0 0, .int .i64 0] 46))) := ((Below.refl _ _).alloc (Nat.le_refl _) _).alloc (by simp) _
  have HT1 := Lib.hid (hT.up B0.out (Nat.le_refl _))
  have HB := Lib.hid hTb
  have hl2 : T.length ≤ 100 := by omega
  have FL : Hid ((T.map tick1).length = T.length) := by rw [Hid]; simp
  have G : Hid (∀ k, (h : k < T.length) → (T.map tick1)[k]? = some (tick1 T[k])) := fun k h => by simp [h]
  clear hT hlt hTb
  generalize T.map tick1 = N at *
  go_enter Try.func35, Try.ntmps35
  go_wp2_with fail
  generalize ((w.alloc (.cells #[.slice A L.length c, .slice A' T.length c', .int .i64 p] 46)).alloc (.cells #[.slice none 0 0, .slice none 0 0, .int .i64 0] 46)) = w1 at *
  have O0 := Lib.hid (World.ownsRow_nil w1 w1.heap.size 3 1)
  go_loopw [3, 4] (fun s z wr => ∃ k : Nat, k ≤ T.length ∧ z = .int .i64 k ∧ wr.ownsRow w1.heap.size 3 1 s k ((N.take k).map (Value.int .i64)) ∧ Below w1.heap.size w1 wr) (fun _ z _ => T.length - (intOf z).toNat)
  case atStart => exact ⟨0, by omega, rfl, by simpa using O0.out, Below.refl _ _⟩
  case round =>
    obtain ⟨k, hk, rfl, hown, hbl⟩ := hrel
    clear O0
    have O := Lib.hid hown
    have B := Lib.hid hbl
    clear hown hbl
    have j1 := (K0.out.below B.out K0.out.lt).cell 1
    have j0 := (K0.out.below B.out K0.out.lt).cell 0
    have j2 := (K0.out.below B.out K0.out.lt).cell 2
    simp at j0 j1 j2
    by_cases hlt : k < T.length
    · obtain ⟨sb, so, u, rfl, hsb, hu, hc⟩ := HT1.out.at_ hlt
      have hku : u = .int .i64 T[k] := by
        rw [List.getElem?_map, List.getElem?_eq_getElem hlt] at hu; simpa using hu.symm
      subst hku
      have hkN : k < N.length := by rw [FL.out]; exact hlt
      have TP := Lib.hid (take_push N k hkN)
      have gk := G.out k hlt
      rw [List.getElem?_eq_getElem hkN] at gk
      injection gk with gk
      rw [gk] at TP
      have hc' : wr.cell? ⟨sb, so + k, none⟩ = some (.int .i64 T[k]) := by rw [B.out.cell (p := ⟨sb, so + k, none⟩) hsb]; exact hc
      have tb := HB.out T[k] (List.getElem_mem hlt)
      clear hc hu gk G HB
      generalize T[k] = x at *
      obtain ⟨tb0, tb1⟩ := tb
      have b0 : (0 : Int) ≤ (k : Int) := by omega
      have b1 : (k : Int) < (T.length : Int) := by omega
      by_cases he : 0 < x
      · rw [tick1_pos he] at TP
        go_wp2_with (at_builtin; refine wpList_push intSl O.out [.int .i64 (x - 1)] rfl (by simp [Value.oneCell']) B.out.size (by omega) (by unfold maxLen; omega) (by rfl) (by rfl) (by rfl) ?_; intro v1 w2 own1 bel1)
        go_roundw
        case rel => exact ⟨k + 1, by omega, by go_num, by rw [← TP.out]; exact own1, B.out.trans bel1⟩
        case measure => simp [intOf]; omega
      · rw [tick1_not he] at TP
        go_wp2_with (at_builtin; refine wpList_push intSl O.out [.int .i64 0] rfl (by simp [Value.oneCell']) B.out.size (by omega) (by unfold maxLen; omega) (by rfl) (by rfl) (by rfl) ?_; intro v1 w2 own1 bel1)
        go_roundw
        case rel => exact ⟨k + 1, by omega, by go_num, by rw [← TP.out]; exact own1, B.out.trans bel1⟩
        case measure => simp [intOf]; omega
    · have hk' : k = T.length := by omega
      subst hk'
      have OE := Lib.hid (own_full O.out FL.out)
      obtain ⟨A2, c2, hv, hs, hA2⟩ := sl_of_own_at OE.out
      subst hv
      have L3 := Lib.hid (K1.out.below B.out K1.out.lt)
      have lt3 := K1.out.lt
      have lt0 := B0.out.size
      have nA : Hid (∀ a, A2 = some a → a.block ≠ w.heap.size + 1) := fun a ha => by have := hA2 a ha; omega
      have nB : Hid (∀ a, A2 = some a → w.heap.size ≤ a.block) := fun a ha => by have := hA2 a ha; omega
      have f0 := L3.out.fr 0
      have f1 := L3.out.fr 1
      have f2 := L3.out.fr 2
      have c0 := L3.out.cell 0
      have c1 := L3.out.cell 1
      have c2' := L3.out.cell 2
      simp at c0 c1 c2'
      have HS := Lib.hid hs
      have BW := Lib.hid (B0.out.trans (B.out.mono lt0))
      clear hs O G hA2 OE HB
      go_wp2
      refine bodyPost_ret (results_cell_row rfl _ _ (w.heap.size + 1) _ #[.slice A L.length c, .slice A2 T.length c2, .int .i64 p] _ _ rfl (((L3.out.set_ 0 _).set_ 1 _).set_ 2 _) Try.underlying46 rfl infoP) rfl ?_
      unfold RetT
      rw [FL.out]
      refine ⟨A2, c2, rfl, ?_, ((BW.out.setCell (p := ⟨w.heap.size + 1, 0, none⟩) (by simp) _).setCell (p := ⟨w.heap.size + 1, 1, none⟩) (by simp) _).setCell (p := ⟨w.heap.size + 1, 2, none⟩) (by simp) _, nB.out⟩
      have := ((HS.out.farCell (p := ⟨w.heap.size + 1, 0, none⟩) nA.out (.slice A L.length c)).farCell (p := ⟨w.heap.size + 1, 1, none⟩) nA.out (.slice A2 T.length c2)).farCell (p := ⟨w.heap.size + 1, 2, none⟩) nA.out (.int .i64 p)
      simpa [World.setCell] using this

/-- who is there among so many, and who is drawn of them -/
def peersL (self : Int) (k : Nat) : List Int := ((List.range k).map fun (i : Nat) => (i : Int) + 1).filter (fun n => decide (n ≠ self))
theorem peersL_succ (self : Int) (k : Nat) : peersL self (k + 1) = peersL self k ++ (if (k : Int) + 1 = self then [] else [(k : Int) + 1]) := by
  unfold peersL
  rw [List.range_succ, List.map_append, List.filter_append]
  congr 1
  by_cases h : (k : Int) + 1 = self
  · simp [h]
  · simp [h]
theorem peersL_mem {self : Int} {k : Nat} {n : Int} : n ∈ peersL self k ↔ 1 ≤ n ∧ n ≤ k ∧ n ≠ self := by
  unfold peersL
  simp only [List.mem_filter, List.mem_map, List.mem_range, decide_eq_true_eq]
  constructor
  · rintro ⟨⟨i, hi, rfl⟩, h⟩; exact ⟨by omega, by omega, h⟩
  · rintro ⟨h1, h2, h3⟩; exact ⟨⟨(n - 1).toNat, by omega, by omega⟩, h3⟩
theorem peersL_len (self : Int) (k : Nat) : (peersL self k).length = lenP self k := by
  induction k with
  | zero => simp [peersL, lenP]; omega
  | succ k ih =>
    rw [peersL_succ, List.length_append]
    unfold lenP at *
    by_cases h : (k : Int) + 1 = self
    · rw [if_pos h]
      simp only [List.length_nil, Nat.add_zero]
      rw [ih, if_neg (by omega), if_pos (by omega)]; omega
    · rw [if_neg h]
      simp only [List.length_cons, List.length_nil]
      by_cases h2 : 1 ≤ self ∧ self ≤ k
      · rw [if_pos h2] at ih
        rw [if_pos (by omega)]; omega
      · rw [if_neg h2] at ih
        rw [if_neg (by omega)]; omega
theorem peersL_get (self : Int) : ∀ (k i : Nat) (h : i < (peersL self k).length), (peersL self k)[i] = if 1 ≤ self ∧ self ≤ (i : Int) + 1 then (i : Int) + 2 else (i : Int) + 1
  | 0, i, h => by simp [peersL] at h
  | k + 1, i, h => by
    have hs := peersL_succ self k
    by_cases hi : i < (peersL self k).length
    · have := peersL_get self k i hi
      rw [← this]
      simp only [hs]
      rw [List.getElem_append_left hi]
    · have hl := peersL_len self k
      have hl2 := peersL_len self (k + 1)
      have e : i = (peersL self k).length := by
        rw [hs, List.length_append] at h
        by_cases h1 : (k : Int) + 1 = self
        · rw [if_pos h1] at h; simp at h; omega
        · rw [if_neg h1] at h; simp at h; omega
      by_cases h1 : (k : Int) + 1 = self
      · exfalso; rw [hs, if_pos h1] at h; simp at h; omega
      · have hg : (peersL self (k + 1))[i] = (k : Int) + 1 := by
          simp only [hs, if_neg h1]
          rw [List.getElem_append_right (by omega)]
          simp
        rw [hg]
        unfold lenP at hl
        by_cases h2 : 1 ≤ self ∧ self ≤ k
        · rw [if_pos h2] at hl
          rw [if_pos (by omega)]; omega
        · rw [if_neg h2] at hl
          rw [if_neg (by omega)]; omega
end Go.Proofs.Ytlebhalaodmkhaa
