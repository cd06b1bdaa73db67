/- The walk of PeersWait. -/
import Derived.Test.YtlebhalaodmkhaaPeersDraw
import Derived.Test.YtlebhalaodmkhaaFlat
namespace Go.Proofs.Ytlebhalaodmkhaa
open Go.RowKit

set_option maxHeartbeats 400000 in
theorem asked_nil (n : Int) (w : World) : Calls Try.prog 30 #[.pointer none, .int .u8 n] w (Ret w (.tuple #[])) := by
  go_enter Try.func30, Try.ntmps30
  go_wp2_with fail
  refine (is_nil n w).mono ?_
  rintro e w1 ⟨rfl, rfl⟩
  go_wp2_with fail
  go_end0
  exact ⟨rfl, rfl⟩
set_option maxHeartbeats 400000 in
theorem heard_nil (n : Int) (w : World) : Calls Try.prog 32 #[.pointer none, .int .u8 n] w (Ret w (.tuple #[])) := by
  go_enter Try.func32, Try.ntmps32
  go_wp2_with fail
  refine (is_nil n w).mono ?_
  rintro e w1 ⟨rfl, rfl⟩
  go_wp2_with fail
  go_end0
  exact ⟨rfl, rfl⟩
set_option maxHeartbeats 400000 in
theorem tick_nil (w : World) : Calls Try.prog 34 #[.pointer none] w (Ret w (.tuple #[])) := by
  go_enter Try.func34, Try.ntmps34
  go_wp2_with fail
  refine bodyPost_ret (results_none rfl _ _ _) rfl ?_
  exact ⟨rfl, rfl⟩
set_option maxHeartbeats 400000 in
theorem len_nil (w : World) : Calls Try.prog 19 #[.pointer none] w (Ret w (.int .i64 0)) := by
  go_enter Try.func19, Try.ntmps19
  go_wp2_with fail
  go_ret
  exact ⟨rfl, rfl⟩
set_option maxHeartbeats 400000 in
theorem draw_nil (x : Int) (w : World) : Calls Try.prog 20 #[.pointer none, .int .u64 x] w (Ret w (.int .u8 0)) := by
  go_enter Try.func20, Try.ntmps20
  go_wp2_with fail
  refine (len_nil w).mono ?_
  rintro e w1 ⟨rfl, rfl⟩
  go_wp2_with fail
  go_ret
  exact ⟨rfl, rfl⟩
set_option maxHeartbeats 400000 in
theorem wait_nil (n : Int) (w : World) : Calls Try.prog 36 #[.pointer none, .int .u8 n] w (Ret w (.int .i64 0)) := by
  go_enter Try.func36, Try.ntmps36
  go_wp2_with fail
  refine (is_nil n w).mono ?_
  rintro e w1 ⟨rfl, rfl⟩
  go_wp2_with fail
  go_ret
  exact ⟨rfl, rfl⟩
set_option maxHeartbeats 400000 in
theorem free_nil (n : Int) (w : World) : Calls Try.prog 38 #[.pointer none, .int .u8 n] w (Ret w (.bool false)) := by
  go_enter Try.func38, Try.ntmps38
  go_wp2_with fail
  refine (is_nil n w).mono ?_
  rintro e w1 ⟨rfl, rfl⟩
  go_wp2_with fail
  go_ret
  exact ⟨rfl, rfl⟩

theorem getD_le {wait : List Int} {p : Int} (h : ∀ v ∈ wait, v ≤ p) (hp : 0 ≤ p) (n : Nat) : wait.getD n 0 ≤ p := by
  rw [List.getD_eq_getElem?_getD]
  rcases Nat.lt_or_ge n wait.length with hl | hl
  · rw [List.getElem?_eq_getElem hl]; exact h _ (List.getElem_mem hl)
  · rw [List.getElem?_eq_none hl]; exact hp
theorem setP_le {self nodes : Int} {wait : List Int} {n : Nat} {v p : Int} (h : ∀ u ∈ wait, u ≤ p) (hv : v ≤ p) : ∀ u ∈ setP self nodes wait n v, u ≤ p := by
  unfold setP; split
  · intro u hu; rcases List.mem_or_eq_of_mem_set hu with h1 | rfl
    · exact h u h1
    · exact hv
  · exact h
theorem waitP_set {self nodes : Int} {wait : List Int} {n : Nat} {v : Int} (hl : wait.length = 65) (hn : nodes ≤ 64) (hi : isP self nodes n = true) : waitP self nodes (setP self nodes wait n v) n = v := by
  have := isP_lt hi hn
  unfold waitP setP; rw [if_pos hi, if_pos hi, List.getD_eq_getElem?_getD, List.getElem?_set_self (by omega)]; rfl
theorem freeP_zero {self nodes : Int} {wait : List Int} {n : Nat} (h : wait.getD n 0 = 0) : freeP self nodes wait n = isP self nodes n := by
  unfold freeP; rw [decide_eq_true h, Bool.and_true]

theorem tick_le {wait : List Int} {p q : Int} (h : ∀ v ∈ wait, v ≤ p) (hq : p - 1 ≤ q) (h0 : 0 ≤ q) : ∀ v ∈ wait.map tick1, v ≤ q := by
  intro v hv
  obtain ⟨u, hu, rfl⟩ := List.mem_map.1 hv
  have := h u hu
  unfold tick1; split <;> omega
theorem all_zero {w : World} {b : Nat} {sf nd pat : Int} {wait : List Int} (p : PeersAt w b sf nd pat wait) (h : ∀ v ∈ wait, v ≤ 0) (n : Nat) : wait.getD n 0 = 0 := by
  rw [List.getD_eq_getElem?_getD]
  rcases Nat.lt_or_ge n wait.length with hl | hl
  · rw [List.getElem?_eq_getElem hl]
    have h1 := h _ (List.getElem_mem hl)
    have h2 := (p.hwait _ (List.getElem_mem hl)).1
    show wait[n] = 0
    omega
  · rw [List.getElem?_eq_none hl]; rfl
theorem u8_bd (n : Int) : 0 ≤ IntKind.u8.wrap n ∧ IntKind.u8.wrap n < 256 := by rw [IntKind.wrap_u8]; omega
theorem clamp_low {n : Int} (h : n < 0) : clamp n 8 = 0 := if_pos h
theorem clamp_mid {n : Int} (h0 : 0 ≤ n) (h : n ≤ 8) : clamp n 8 = n := by unfold clamp; rw [if_neg (by omega), if_neg (by omega)]
theorem clamp_high {n : Int} (h : 8 < n) : clamp n 8 = 8 := by unfold clamp; rw [if_neg (by omega), if_pos h]

set_option maxHeartbeats 400000 in
theorem peersWait_big (w : World) (a0 a1 a2 : Int) (A : Option Addr) (m c : Nat) (hm : 100 < m) (n : Int) :
    Calls Try.prog 10 #[.agg #[.int .i64 a0, .int .i64 a1, .int .i64 a2], .slice A m c, .int .u8 n] w (RetB w (.bool true)) := by
  have hm' : (100 : Int) < (m : Int) := by omega
  go_enter Try.func10, Try.ntmps10
  go_wp2_with fail
  refine (works36 _).mono ?_
  rintro e w5 ⟨rfl, b5⟩
  go_wp2_with fail
  go_ret
  exact ⟨rfl, ext_trans ((Below.refl _ _).alloc (Nat.le_refl _) _) b5⟩

/-- the first loop: whoever is asked is waited for; then one is heard of; then it ticks; then all are free -/
def W36 (w wr : World) (b : Nat) (sf nd pat p : Int) : Prop := ∃ wait : List Int, PeersAt wr b sf nd pat wait ∧ (∀ v ∈ wait, v ≤ p) ∧ Below b w wr
theorem W36.drewN {w wr : World} {b : Nat} {sf nd pat p : Int} (h : W36 w wr b sf nd pat p) (k : Nat) : W36 w (wr.drewN k) b sf nd pat p := by
  obtain ⟨wait, p, q, r⟩ := h
  exact ⟨wait, p.drewN k, q, below_drewN r k⟩

set_option maxRecDepth 100000 in
set_option maxHeartbeats 2000000 in
theorem peersWait_main (w : World) (a0 a1 a2 : Int) (A : Option Addr) (m c : Nat) (zs : List Int) (hz : zs.length = m) (hzw : ∀ z ∈ zs, (Lit.int .u8 z).wf = true) (hsl : Sl w w.heap.size 1 A m (zs.map (Value.int .u8)))
    (hm : m ≤ 100) (n : Int) (hn : 0 ≤ n ∧ n < 256) :
    Calls Try.prog 10 #[.agg #[.int .i64 a0, .int .i64 a1, .int .i64 a2], .slice A m c, .int .u8 n] w (RetB w (.bool true)) := by
  have hm' : ¬ (100 : Int) < (m : Int) := by omega
  have HZ := Lib.hid hz
  have HW := Lib.hid hzw
  have HS := Lib.hid hsl
  have hu := u8_bd a0
  have P0 := Lib.hid (PeersAt.new (w.alloc (.cells #[.int .i64 a0, .int .i64 a1, .int .i64 a2] 41)) (IntKind.u8.wrap a0) a1 a2 hu)
  have B0 : Hid (Below w.heap.size w (w.alloc (.cells #[.int .i64 a0, .int .i64 a1, .int .i64 a2] 41))) := (Below.refl _ _).alloc (Nat.le_refl _) _
  have c2 : Hid ((w.alloc (.cells #[.int .i64 a0, .int .i64 a1, .int .i64 a2] 41)).cell? ⟨w.heap.size, 2, none⟩ = some (.int .i64 a2)) := by rw [Hid]; simp [go_sem]
  have hsz : Hid ((w.alloc (.cells #[.int .i64 a0, .int .i64 a1, .int .i64 a2] 41)).heap.size = w.heap.size + 1) := by rw [Hid]; simp
  clear hz hzw hsl
  go_enter Try.func10, Try.ntmps10
  go_wp2_with fail
  refine (new_any (IntKind.u8.wrap a0) a1 a2 _).mono ?_
  rintro e w1 ⟨rfl, rfl⟩
  generalize IntKind.u8.wrap a0 = sf at *
  generalize (w.alloc (.cells #[.int .i64 a0, .int .i64 a1, .int .i64 a2] 41)) = w0 at *
  have P1 : Hid (W36 w0 ((w0.alloc (.cells (peerCells sf (clamp a1 64) (clamp a2 8) (List.replicate 65 0)) 63))) w0.heap.size sf (clamp a1 64) (clamp a2 8) (clamp a2 8)) :=
    ⟨_, P0.out, fun v hv => by rw [List.eq_of_mem_replicate hv]; exact P0.out.hpat.1, (Below.refl _ _).alloc (Nat.le_refl _) _⟩
  have hnd := P0.out.hnodes
  have hpt := P0.out.hpat
  generalize (w0.alloc (.cells (peerCells sf (clamp a1 64) (clamp a2 8) (List.replicate 65 0)) 63)) = w1 at *
  clear P0
  generalize clamp a1 64 = nd at *
  have HC : Hid ((a2 < 0 ∧ clamp a2 8 = 0) ∨ (0 ≤ a2 ∧ a2 ≤ 8 ∧ clamp a2 8 = a2) ∨ (8 < a2 ∧ clamp a2 8 = 8)) := by
    rcases Int.lt_or_le a2 0 with h | h
    · exact .inl ⟨h, clamp_low h⟩
    · rcases Int.lt_or_le 8 a2 with h' | h'
      · exact .inr (.inr ⟨h', clamp_high h'⟩)
      · exact .inr (.inl ⟨h, h', clamp_mid h h'⟩)
  generalize clamp a2 8 = pat at *
  generalize w0.heap.size = b at *
  go_wp2_with fail
  -- the first loop
  go_loopw [8] (fun i wr => ∃ k : Nat, k ≤ m ∧ i = .int .i64 k ∧ W36 w0 wr b sf nd pat pat) (fun i _ => m - (intOf i).toNat)
  case atStart => exact ⟨0, Nat.zero_le _, rfl, P1.out⟩
  case round =>
    obtain ⟨k, hk, rfl, hW⟩ := hrel
    obtain ⟨wait, hp, hle, hbl⟩ := hW
    have P := Lib.hid hp
    have L := Lib.hid hle
    have B := Lib.hid hbl
    clear hp hle hbl P1
    by_cases hlt : k < m
    · obtain ⟨sb, so, u, rfl, hsb, hu1, hcell⟩ := HS.out.at_ hlt
      have hcellr : wr.cell? ⟨sb, so + k, none⟩ = some u := by
        rw [B.out.cell (p := ⟨sb, so + k, none⟩) (by have := hsz.out; show sb < b; omega), B0.out.cell (p := ⟨sb, so + k, none⟩) hsb]; exact hcell
      have hkz : k < zs.length := by rw [HZ.out]; exact hlt
      have hzk := HW.out _ (List.getElem_mem hkz)
      have huz : u = .int .u8 zs[k] := by
        rw [List.getElem?_map, List.getElem?_eq_getElem hkz] at hu1; simpa using hu1.symm
      obtain ⟨hz0, hz1⟩ := bounds_u8 hzk
      obtain ⟨z, hzz⟩ : ∃ z : Nat, zs[k] = z := ⟨zs[k].toNat, by omega⟩
      rw [hzz] at huz hz1
      subst huz
      have hz2 : z < 256 := by omega
      clear hu1 hcell hzk hz0 hzz hkz hz1
      have hc2r : wr.cell? ⟨w.heap.size, 2, none⟩ = some (.int .i64 a2) := by
        rw [B.out.cell (p := ⟨w.heap.size, 2, none⟩) (by have := hsz.out; show w.heap.size < b; omega)]; exact c2.out
      have hb0 : (0 : Int) ≤ (k : Int) := by omega
      have hb1 : (k : Int) < (m : Int) := by omega
      go_wp2_with fail
      refine (asked_any P.out z hz2).mono ?_
      rintro e w2 ⟨rfl, p2, g2⟩
      have P2 := Lib.hid p2
      have L2 := Lib.hid (setP_le (self := sf) (nodes := nd) (n := z) L.out (Int.le_refl pat))
      have B2 := Lib.hid (B.out.trans (⟨g2.os, g2.tape, g2.output, g2.size, fun i hi => g2.block i (by have := P.out.lt; omega) (by simp; omega)⟩ : Below b wr w2))
      have hc3 : w2.cell? ⟨w.heap.size, 2, none⟩ = some (.int .i64 a2) := g2.cell hc2r (by have := hsz.out; simp; omega)
      have hce : w2.cell? ⟨sb, so + k, none⟩ = some (.int .u8 z) := g2.cell hcellr (by have := hsz.out; simp; omega)
      have HIs := Lib.hid (fun q => is_any b sf nd z (w2.drewN q) (P2.out.drewN q).c0 (P2.out.drewN q).c1 (by omega))
      have HWt := Lib.hid (fun q => wait_any (P2.out.drewN q) z hz2)
      clear p2 g2 hcellr hc2r
      by_cases hi : isP sf nd z = true
      · rw [hi] at HIs
        rw [waitP_set P.out.len P.out.hnodes.2 hi] at HWt
        clear hi
        rcases HC.out with ⟨h1, rfl⟩ | ⟨h1, h2, rfl⟩ | ⟨h1, rfl⟩
        all_goals
          go_wp2_with fail
          go_quiet ((first | (go_at_call 21; exact quiet_ret (HIs.out _)) | (go_at_call 36; exact quiet_ret (HWt.out _))))
          go_wp2
          go_roundw
          case rel => exact ⟨k + 1, by omega, by go_num, W36.drewN ⟨_, P2.out, L2.out, B2.out⟩ _⟩
          case measure => simp [intOf]; omega
      · have hi' : isP sf nd z = false := by simpa using hi
        rw [hi'] at HIs
        clear hi hi' HWt
        go_wp2_with fail
        go_quiet ((first | (go_at_call 21; exact quiet_ret (HIs.out _))))
        go_wp2
        go_roundw
        case rel => exact ⟨k + 1, by omega, by go_num, W36.drewN ⟨_, P2.out, L2.out, B2.out⟩ _⟩
        case measure => simp [intOf]; omega
    · obtain ⟨n', rfl⟩ := Int.eq_ofNat_of_zero_le hn.1
      have hn' : n' < 256 := by omega
      go_wp2_with fail
      refine (heard_any P.out n' hn').mono ?_
      rintro e w2 ⟨rfl, p2, g2⟩
      have hpat0 : (0 : Int) ≤ pat := hpt.1
      have P2 := Lib.hid p2
      have L2 := Lib.hid (setP_le (self := sf) (nodes := nd) (n := n') L.out hpat0)
      have B2 := Lib.hid (B.out.trans (⟨g2.os, g2.tape, g2.output, g2.size, fun i hi => g2.block i (by have := P.out.lt; omega) (by simp; omega)⟩ : Below b wr w2))
      have HFr : Hid (freeP sf nd (setP sf nd wait n' 0) n' = isP sf nd n') := by
        rw [Hid]
        by_cases hi : isP sf nd n' = true
        · have := isP_lt hi P.out.hnodes.2
          exact freeP_zero (by unfold setP; rw [if_pos hi, List.getD_eq_getElem?_getD, List.getElem?_set_self (by rw [P.out.len]; exact this)]; rfl)
        · have hi' : isP sf nd n' = false := by simpa using hi
          unfold freeP; rw [hi']; rfl
      have HIs := Lib.hid (is_any b sf nd n' w2 P2.out.c0 P2.out.c1 (by omega))
      have HF := Lib.hid (free_any P2.out n' hn')
      rw [HFr.out] at HF
      clear p2 g2 HFr
      generalize isP sf nd n' = bb at *
      go_wp2_with fail
      refine HF.out.mono ?_
      rintro e w3 ⟨rfl, rfl⟩
      go_wp2_with fail
      refine HIs.out.mono ?_
      rintro e w3 ⟨rfl, rfl⟩
      go_wp2_with fail
      go_loopw [9] (fun i wr => ∃ k : Nat, (k : Int) ≤ pat ∧ i = .int .i64 k ∧ W36 w0 wr b sf nd pat (pat - k)) (fun i _ => (pat - intOf i).toNat)
      case atStart => exact ⟨0, hpat0, rfl, _, P2.out, by simpa using L2.out, B2.out⟩
      case round =>
        clear P L B P2 L2 B2 HIs HF
        obtain ⟨j, hj, rfl, hW⟩ := hrel
        obtain ⟨wait, hp, hle, hbl⟩ := hW
        have P := Lib.hid hp
        have L := Lib.hid hle
        have B := Lib.hid hbl
        have hc2r : wr.cell? ⟨w.heap.size, 2, none⟩ = some (.int .i64 a2) := by
          rw [hbl.cell (p := ⟨w.heap.size, 2, none⟩) (by have := hsz.out; show w.heap.size < b; omega)]; exact c2.out
        clear hp hle hbl
        by_cases hlt : (j : Int) < pat
        · rcases HC.out with ⟨h1, rfl⟩ | ⟨h1, h2, rfl⟩ | ⟨h1, rfl⟩
          · omega
          all_goals
            go_wp2_with fail
            refine (tick_any P.out).mono ?_
            rintro e w3 ⟨rfl, p3, g3⟩
            have P3 := Lib.hid p3
            have B3 := Lib.hid (B.out.trans (⟨g3.os, g3.tape, g3.output, g3.size, fun i hi => g3.block i (by have := P.out.lt; omega) (by simp; omega)⟩ : Below b wr w3))
            clear p3 g3
            go_wp2_with fail
            go_roundw
            case rel => exact ⟨j + 1, by omega, by go_num, _, P3.out, tick_le L.out (by omega) (by omega), B3.out⟩
            case measure => simp [intOf]; omega
        · have hjp : (j : Int) = pat := by omega
          have L0 : Hid (∀ v ∈ wait, v ≤ 0) := by rw [Hid]; intro v hv; have := L.out v hv; omega
          clear L
          rcases HC.out with ⟨h1, rfl⟩ | ⟨h1, h2, rfl⟩ | ⟨h1, rfl⟩
          all_goals
            go_wp2_with fail
            go_loopw [10] (fun i wr => ∃ k : Nat, k ≤ m ∧ i = .int .i64 k ∧ W36 w0 wr b sf nd _ 0) (fun i _ => m - (intOf i).toNat)
            case atStart => exact ⟨0, Nat.zero_le _, rfl, _, P.out, L0.out, B.out⟩
            case round =>
              clear P B L0
              obtain ⟨k2, hk2, rfl, hW⟩ := hrel
              obtain ⟨wait, hp, hle, hbl⟩ := hW
              have P := Lib.hid hp
              have L := Lib.hid hle
              have B := Lib.hid hbl
              by_cases hlt2 : k2 < m
              · obtain ⟨sb, so, u, rfl, hsb, hu1, hcell⟩ := HS.out.at_ hlt2
                have hcellr : wr.cell? ⟨sb, so + k2, none⟩ = some u := by
                  rw [hbl.cell (p := ⟨sb, so + k2, none⟩) (by have := hsz.out; show sb < b; omega), B0.out.cell (p := ⟨sb, so + k2, none⟩) hsb]; exact hcell
                have hkz : k2 < zs.length := by rw [HZ.out]; exact hlt2
                have hzk := HW.out _ (List.getElem_mem hkz)
                have huz : u = .int .u8 zs[k2] := by
                  rw [List.getElem?_map, List.getElem?_eq_getElem hkz] at hu1; simpa using hu1.symm
                obtain ⟨hz0, hz1⟩ := bounds_u8 hzk
                obtain ⟨z, hzz⟩ : ∃ z : Nat, zs[k2] = z := ⟨zs[k2].toNat, by omega⟩
                rw [hzz] at huz hz1
                subst huz
                have hz2 : z < 256 := by omega
                have HIs := Lib.hid (fun q => is_any b sf nd z (wr.drewN q) (P.out.drewN q).c0 (P.out.drewN q).c1 (by omega))
                have HFr := Lib.hid (fun q => free_any (P.out.drewN q) z hz2)
                rw [freeP_zero (all_zero P.out L.out z)] at HFr
                clear hu1 hcell hzk hz0 hzz hkz hz1 hp hle hbl
                generalize isP sf nd z = bb at *
                have hb0 : (0 : Int) ≤ (k2 : Int) := by omega
                have hb1 : (k2 : Int) < (m : Int) := by omega
                go_wp2_with fail
                go_quiet ((first | (go_at_call 38; exact quiet_ret (HFr.out _)) | (go_at_call 21; exact quiet_ret (HIs.out _))))
                go_wp2
                go_roundw
                case rel => exact ⟨k2 + 1, by omega, by go_num, W36.drewN ⟨_, P.out, L.out, B.out⟩ _⟩
                case measure => simp [intOf]; omega
              · clear hp hle hbl
                go_wp2_with fail
                refine (asked_nil _ _).mono ?_
                rintro e w5 ⟨rfl, rfl⟩
                go_wp2_with fail
                refine (heard_nil _ _).mono ?_
                rintro e w5 ⟨rfl, rfl⟩
                go_wp2_with fail
                refine (tick_nil _).mono ?_
                rintro e w5 ⟨rfl, rfl⟩
                go_wp2_with fail
                refine (len_nil _).mono ?_
                rintro e w5 ⟨rfl, rfl⟩
                go_wp2_with fail
                refine (draw_nil _ _).mono ?_
                rintro e w5 ⟨rfl, rfl⟩
                go_wp2_with fail
                refine (is_nil _ _).mono ?_
                rintro e w5 ⟨rfl, rfl⟩
                go_wp2_with fail
                refine (free_nil _ _).mono ?_
                rintro e w5 ⟨rfl, rfl⟩
                go_wp2_with fail
                refine (wait_nil _ _).mono ?_
                rintro e w5 ⟨rfl, rfl⟩
                go_wp2_with fail
                refine (works36 _).mono ?_
                rintro e w5 ⟨rfl, b5⟩
                go_wp2_with fail
                go_ret
                exact ⟨rfl, (B0.out.trans (B.out.mono (by have := hsz.out; omega))).trans (b5.mono (Nat.le_trans B0.out.size B.out.size))⟩

theorem peersWait_walk (w : World) (who : List Value) (hwho : FlatOk [.int .i64, .int .i64, .int .i64] who) (A : Option Addr) (m c : Nat) (rows : List (List Value)) (hr : RowsAt [.int .u8] w A m c rows) (n : Int) (hn : (Lit.int .u8 n).wf = true) :
    Calls Try.prog 10 #[.agg who.toArray, .slice A m c, .int .u8 n] w (RetB w (.bool true)) := by
  obtain ⟨zs, rfl, hl, _⟩ := flatOk_ints 3 who hwho
  match zs, hl with
  | [a0, a1, a2], _ =>
    by_cases hm : m ≤ 100
    · obtain ⟨zs, h1, h2, h3⟩ := hr.ints
      have := bounds_u8 hn
      exact peersWait_main w a0 a1 a2 A m c zs h1 h2 h3 hm n (by omega)
    · exact peersWait_big w a0 a1 a2 A m c (by omega) n
end Go.Proofs.Ytlebhalaodmkhaa
