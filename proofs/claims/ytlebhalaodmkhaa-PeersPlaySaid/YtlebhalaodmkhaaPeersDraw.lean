/- PeersDraw: of any replica among any, the numbers below how many peers there are draw each peer once, any number draws a peer unless there is none, nobody draws itself. No conditions. -/
import Derived.Test.YtlebhalaodmkhaaPeersb
import Derived.Test.YtlebhalaodmkhaaLift
namespace Go.Proofs.Ytlebhalaodmkhaa
open Go.ChangeShapes Go.WideShapes Go.ChangeAt Go.RowKit

set_option maxHeartbeats 1000000 in
theorem works36 (w : World) : Calls Try.prog 22 #[] w (RetB w (.bool true)) := by
  have P0 := Lib.hid (PeersAt.new w 2 4 3 (by omega))
  have e1 : drawP 2 4 0 = 1 := by decide
  have e2 : drawP 2 4 1 = 3 := by decide
  have e3 : drawP 2 4 2 = 4 := by decide
  have e4 : drawP 2 4 3 = 1 := by decide
  have e5 : lenP 2 4 = 3 := by decide
  have e6 : waitP 2 4 (setP 2 4 (List.replicate 65 0) 3 3) 3 = 3 := by decide
  have e7 : freeP 2 4 (setP 2 4 (List.replicate 65 0) 3 3) 3 = false := by decide
  have e8 : freeP 2 4 (setP 2 4 (List.replicate 65 0) 3 3) 1 = true := by decide
  have e9 : clamp 4 64 = 4 := by decide
  have e10 : clamp 3 8 = 3 := by decide
  rw [e9, e10] at P0
  have hb : Below w.heap.size w (w.alloc (.cells (peerCells 2 4 3 (List.replicate 65 0)) 63)) := (Below.refl _ _).alloc (Nat.le_refl _) _
  have HB := Lib.hid hb
  clear hb
  go_enter Try.func22, Try.ntmps22
  go_wp2_with fail
  refine (new_any 2 4 3 w).mono ?_
  rw [e9, e10]
  rintro e w1 ⟨rfl, rfl⟩
  generalize w.alloc (.cells (peerCells 2 4 3 (List.replicate 65 0)) 63) = w1 at *
  go_wp2_with fail
  refine (draw_any _ 2 4 0 _ P0.out.c0 P0.out.c1 (by omega) (by omega) (by omega)).mono ?_
  rintro e w2 ⟨rfl, k1, rfl⟩
  go_wp2_with fail
  refine (draw_any _ 2 4 1 _ (P0.out.drewN _).c0 (P0.out.drewN _).c1 (by omega) (by omega) (by omega)).mono ?_
  rintro e w2 ⟨rfl, k2, rfl⟩
  go_wp2_with fail
  refine (asked_any (P0.out.drewN (k1 + k2)) 3 (by omega)).mono ?_
  rintro e w3 ⟨rfl, p3, g3⟩
  have P3 := Lib.hid p3
  have HB3 := Lib.hid ((below_drewN HB.out (k1 + k2)).grown g3 HB.out.size (by rintro k ⟨⟩; exact Nat.le_refl _))
  clear p3 g3
  go_wp2_with fail
  refine (draw_any _ 2 4 2 _ P3.out.c0 P3.out.c1 (by omega) (by omega) (by omega)).mono ?_
  rintro e w2 ⟨rfl, k3, rfl⟩
  go_wp2_with fail
  refine (draw_any _ 2 4 3 _ (P3.out.drewN _).c0 (P3.out.drewN _).c1 (by omega) (by omega) (by omega)).mono ?_
  rintro e w2 ⟨rfl, k4, rfl⟩
  go_wp2_with fail
  refine (wait_any (P3.out.drewN (k3 + k4)) 3 (by omega)).mono ?_
  rintro e w2 ⟨rfl, rfl⟩
  go_wp2_with fail
  refine (free_any (P3.out.drewN (k3 + k4)) 3 (by omega)).mono ?_
  rintro e w2 ⟨rfl, rfl⟩
  go_wp2_with fail
  refine (free_any (P3.out.drewN (k3 + k4)) 1 (by omega)).mono ?_
  rintro e w2 ⟨rfl, rfl⟩
  go_wp2_with fail
  refine (len_any _ 2 4 _ (P3.out.drewN _).c0 (P3.out.drewN _).c1 (by omega) (by omega)).mono ?_
  rintro e w2 ⟨rfl, k5, rfl⟩
  go_wp2_with fail
  go_ret
  exact ⟨rfl, below_drewN HB3.out _⟩

def dr (self i : Int) : Int := if 1 ≤ self ∧ self ≤ i + 1 then i + 2 else i + 1
theorem drawP_of {self m x : Int} (h : lenP self m ≠ 0) : drawP self m x = dr self (x % lenP self m) := by unfold drawP dr; rw [if_neg h]
theorem dr_in {self m i : Int} (h0 : 0 ≤ i) (h1 : i < lenP self m) : 1 ≤ dr self i ∧ dr self i ≤ m ∧ dr self i ≠ self := by
  unfold lenP at h1; unfold dr
  split at h1 <;> split <;> omega
theorem dr_lt {self i j : Int} (h : i < j) : dr self i < dr self j := by
  unfold dr; split <;> split <;> omega

def zeros256 : Array Value := (List.replicate 256 (Value.int .i64 0)).toArray
theorem ones256 : zeros256.all (·.oneCell') = true := by kernel_rfl
theorem build256 (w : World) : (Instr.build 28 #[]).run Try.prog w = .ok (.agg zeros256) w := by kernel_rfl

theorem alloc256 (w : World) : (Instr.alloc 28 true (.tuple #[])).run Try.prog w = .ok (.pointer (some ⟨w.heap.size, 0, none⟩)) (w.alloc (.cells zeros256 28)) := by kernel_rfl
theorem info256 : (Try.prog.info? 28).map (·.size) = some zeros256.size := by kernel_rfl

/-- the block in which it is counted who was drawn -/
structure SeenAt (w : World) (g : Nat) (s : List Int) : Prop where
  blk : w.heap[g]? = some (.cells (s.map (Value.int .i64)).toArray 28 (0, 0))
  len : s.length = 256
section
variable {w w' : World} {g : Nat} {s : List Int}
theorem SeenAt.cell (h : SeenAt w g s) (n : Nat) (hn : n < 256) : w.cell? ⟨g, n, none⟩ = some (.int .i64 (s.getD n 0)) := by
  have hl : n < s.length := by rw [h.len]; exact hn
  simp [World.cell?, h.blk, hl]
theorem SeenAt.fr (h : SeenAt w g s) (i : Nat) : w.frozen? ⟨g, i, none⟩ = false := by simp [World.frozen?, h.blk]
theorem SeenAt.drewN (h : SeenAt w g s) (n : Nat) : SeenAt (w.drewN n) g s := ⟨h.blk, h.len⟩
theorem SeenAt.set (h : SeenAt w g s) (n : Nat) (v : Int) : SeenAt (w.setCell ⟨g, n, none⟩ (.int .i64 v)) g (s.set n v) := by
  refine ⟨?_, by rw [List.length_set, h.len]⟩
  simp only [World.setCell, Array.getElem?_modify, h.blk, if_true, Option.map_some]
  congr 2
  simp [List.map_set]
end

set_option maxRecDepth 100000 in
set_option maxHeartbeats 1000000 in
theorem peersDraw_walk (self : Int) (hs : (Lit.int .u8 self).wf = true) (nodes : Int) (_hn : (Lit.int .i64 nodes).wf = true) (x : Int) (hx : (Lit.int .u64 x).wf = true) (w : World) :
    Calls Try.prog 5 #[.int .u8 self, .int .i64 nodes, .int .u64 x] w (RetB w (.bool true)) := by
  have hs' : 0 ≤ self ∧ self < 256 := by have := bounds_u8 hs; omega
  have hx' : 0 ≤ x ∧ x ≤ 18446744073709551615 := bounds_u64 hx
  clear hs _hn hx
  have P0 := Lib.hid (PeersAt.new w self nodes 1 hs')
  have hb : Below w.heap.size w (w.alloc (.cells (peerCells self (clamp nodes 64) (clamp 1 8) (List.replicate 65 0)) 63)) := (Below.refl _ _).alloc (Nat.le_refl _) _
  have HB := Lib.hid hb
  have hsz : (w.alloc (.cells (peerCells self (clamp nodes 64) (clamp 1 8) (List.replicate 65 0)) 63)).heap.size = w.heap.size + 1 := by simp
  have HSZ := Lib.hid hsz
  clear hb hsz
  go_enter Try.func5, Try.ntmps5
  go_wp2_with fail
  refine (new_any self nodes 1 w).mono ?_
  rintro e w1 ⟨rfl, rfl⟩
  generalize w.alloc (.cells (peerCells self (clamp nodes 64) (clamp 1 8) (List.replicate 65 0)) 63) = w1 at *
  go_wp2_with (first
    | (refine wpList_built (build256 _) ?hvs ?hk; case hvs => simp)
    | (refine wpList_alloced (alloc256 _) ?_)
    | (refine wpList_store_row rfl _ _ _ (by rfl) _ _ (by rfl) (by rfl) _ _ (heap_alloc_new _ _) info256 rfl ones256 ?_))
  have hm := P0.out.hnodes
  have hpat := P0.out.hpat
  generalize clamp nodes 64 = m at *
  generalize clamp 1 8 = pat at *
  generalize List.replicate 65 (0 : Int) = wait at *
  have hL := lenP_bd (self := self) hm
  have P1 : Hid (PeersAt ((w1.alloc (.cells zeros256 28)).setRow w1.heap.size zeros256) w.heap.size self m pat wait) := by
    refine ⟨?_, P0.out.hself, P0.out.hnodes, P0.out.hpat, P0.out.len, P0.out.hwait⟩
    rw [setRow_other _ _ _ _ (by have := HSZ.out; omega)]
    exact (P0.out.alloc _).blk
  have S1 : Hid (SeenAt ((w1.alloc (.cells zeros256 28)).setRow w1.heap.size zeros256) w1.heap.size (List.replicate 256 0)) :=
    ⟨by rw [setRow_heap _ _ _ _ _ _ (heap_alloc_new _ _)]; rfl, by simp⟩
  have B1 : Hid (Below w.heap.size w ((w1.alloc (.cells zeros256 28)).setRow w1.heap.size zeros256)) := by
    have h1 := HB.out.alloc HB.out.size (.cells zeros256 28)
    refine h1.trans ⟨rfl, rfl, rfl, by simp, fun k hk => setRow_other _ _ _ _ (by have := HSZ.out; omega)⟩
  have hne : Hid (w1.heap.size ≠ w.heap.size) := by have := HSZ.out; rw [Hid]; omega
  clear P0 HB
  generalize hwr0 : (w1.alloc (.cells zeros256 28)).setRow w1.heap.size zeros256 = wr0 at *
  clear hwr0
  generalize hg : w1.heap.size = g at *
  have hgl : Hid (w.heap.size ≤ g) := by have := HSZ.out; rw [Hid]; omega
  clear hg HSZ
  have HLn := Lib.hid (fun w0 (P : PeersAt w0 w.heap.size self m pat wait) => len_any w.heap.size self m w0 P.c0 P.c1 hs' hm)
  have HD := Lib.hid (fun x (hx : 0 ≤ x ∧ x ≤ 18446744073709551615) w0 (P : PeersAt w0 w.heap.size self m pat wait) => draw_any w.heap.size self m x w0 P.c0 P.c1 hs' hm hx)
  have HI := Lib.hid (fun n (hn : 0 ≤ n ∧ n < 256) w0 (P : PeersAt w0 w.heap.size self m pat wait) => is_any w.heap.size self m n w0 P.c0 P.c1 hn)
  have HDL : Hid (∀ i : Int, 0 ≤ i → i < lenP self m → drawP self m i = dr self i) := fun i h0 h1 => by rw [drawP_of (by omega), Int.emod_eq_of_lt h0 h1]
  have HDI : Hid (∀ i : Int, 0 ≤ i → i < lenP self m → 1 ≤ dr self i ∧ dr self i ≤ m ∧ dr self i ≠ self) := fun i h0 h1 => dr_in h0 h1
  have HX : Hid (lenP self m = 0 → drawP self m x = 0) := fun h => by unfold drawP; rw [if_pos h]
  have HY : Hid (lenP self m ≠ 0 → 1 ≤ drawP self m x ∧ drawP self m x ≤ m ∧ drawP self m x ≠ self) := fun h => by
    rw [drawP_of h]; exact dr_in (Int.emod_nonneg _ h) (Int.emod_lt_of_pos _ (by omega))
  generalize hl : lenP self m = l at *
  clear hl
  obtain ⟨hL0, hL1⟩ := hL
  obtain ⟨hx0, hx1⟩ := hx'
  go_loopw [9] (fun i wr => ∃ (k : Nat) (s : List Int), (k : Int) ≤ l ∧ i = .int .i64 k ∧ PeersAt wr w.heap.size self m pat wait ∧ SeenAt wr g s ∧ Hid (∀ j : Int, (k : Int) ≤ j → j < l → s.getD (dr self j).toNat 0 = 0) ∧ Below w.heap.size w wr) (fun i _ => (l - intOf i).toNat)
  case atStart => exact ⟨0, _, by omega, rfl, P1.out, S1.out, fun j _ _ => by rw [List.getD_eq_getElem?_getD, List.getElem?_replicate]; split <;> rfl, B1.out⟩
  case round =>
    obtain ⟨k, s, hk, rfl, hp, hse, H, hb⟩ := hrel
    have P := Lib.hid hp
    have S := Lib.hid hse
    have B := Lib.hid hb
    clear hp hse hb P1 S1 B1
    by_cases hlt : (k : Int) < l
    · go_wp2_with fail
      refine (HLn.out _ P.out).mono ?_
      rintro e w2 ⟨rfl, k1, rfl⟩
      have h3 := HDI.out k (by omega) hlt
      obtain ⟨n, hn⟩ : ∃ n : Nat, drawP self m k = n := ⟨(dr self k).toNat, by rw [HDL.out k (by omega) hlt]; omega⟩
      have hn' : dr self k = n := by rw [← HDL.out k (by omega) hlt]; exact hn
      rw [hn'] at h3
      obtain ⟨hn1, hn2, hn3⟩ := h3
      have h0 := H.out k (by omega) hlt
      rw [hn', Int.toNat_natCast] at h0
      have hi : isP self m n = true := isP_t ⟨hn1, hn2, hn3⟩
      have hnb : n < 256 := by omega
      have hc := S.out.cell n hnb
      rw [h0] at hc
      have hf := S.out.fr n
      have hb0 : (0 : Int) ≤ (n : Int) := by omega
      have hb1 : (n : Int) < 256 := by omega
      have HD' := Lib.hid (HD.out k (by omega))
      rw [hn] at HD'
      have HI' := Lib.hid (HI.out n (by omega))
      rw [hi] at HI'
      have hns : ((n : Int) == self) = false := by simpa using hn3
      have HN := Lib.hid hn'
      clear hn hn' h0 hi hn3
      go_wp2_with fail
      refine (HD'.out _ (P.out.drewN _)).mono ?_
      rintro e w2 ⟨rfl, k2, rfl⟩
      go_wp2_with fail
      refine (HI'.out _ (by exact (P.out.far (p := ⟨g, n, none⟩) (Ne.symm hne.out) _).drewN _)).mono ?_
      rintro e w2 ⟨rfl, rfl⟩
      go_wp2_with fail
      go_roundw
      case rel =>
        refine ⟨k + 1, s.set n 1, by omega, by go_num, (P.out.far (p := ⟨g, n, none⟩) (Ne.symm hne.out) _).drewN _, (S.out.set n 1).drewN _, fun j hj0 hj1 => ?_, below_drewN (B.out.setCell hgl.out _) _⟩
        have h1 := dr_lt (self := self) (show (k : Int) < j by omega)
        have h2 := HN.out
        have h3 := HDI.out j (by omega) hj1
        rw [List.getD_eq_getElem?_getD, List.getElem?_set_ne (by omega), ← List.getD_eq_getElem?_getD]
        exact H.out j (by omega) hj1
      case measure => simp [intOf]; omega
    · have hkl : (k : Int) = l := by omega
      have HK := Lib.hid hkl
      clear hkl H
      have his : isP self m self = false := isP_f (by omega)
      have his0 : isP self m 0 = false := isP_f (by omega)
      have HI1 := Lib.hid (HI.out self hs')
      have HI0 := Lib.hid (HI.out 0 (by omega))
      rw [his] at HI1
      rw [his0] at HI0
      clear his his0
      by_cases h0 : l = 0
      · have hd := HX.out h0
        have HD' := Lib.hid (HD.out x ⟨hx0, hx1⟩)
        rw [hd] at HD'
        have hl0 : (l == 0) = true := by simp [h0]
        clear hd h0
        go_wp2_with fail
        refine (HLn.out _ P.out).mono ?_
        rintro e w2 ⟨rfl, k1, rfl⟩
        go_wp2_with fail
        refine (HD'.out _ (P.out.drewN _)).mono ?_
        rintro e w2 ⟨rfl, k2, rfl⟩
        go_wp2_with fail
        refine (HLn.out _ (P.out.drewN _)).mono ?_
        rintro e w2 ⟨rfl, k3, rfl⟩
        go_wp2_with fail
        refine (HI1.out _ (P.out.drewN _)).mono ?_
        rintro e w2 ⟨rfl, rfl⟩
        go_wp2_with fail
        refine (HI0.out _ (P.out.drewN _)).mono ?_
        rintro e w2 ⟨rfl, rfl⟩
        go_wp2_with fail
        refine (HLn.out _ (P.out.drewN _)).mono ?_
        rintro e w2 ⟨rfl, k4, rfl⟩
        go_wp2_with fail
        refine (works36 _).mono ?_
        rintro e w2 ⟨rfl, b2⟩
        go_wp2_with fail
        go_ret
        exact ⟨rfl, (below_drewN B.out _).trans (b2.mono (by exact B.out.size))⟩
      · obtain ⟨hd1, hd2, hd3⟩ := HY.out h0
        have HD' := Lib.hid (HD.out x ⟨hx0, hx1⟩)
        have hi : isP self m (drawP self m x) = true := isP_t ⟨hd1, hd2, hd3⟩
        have HI' := Lib.hid (HI.out (drawP self m x) (by omega))
        rw [hi] at HI'
        clear hi hd3
        generalize drawP self m x = d at *
        have hl0 : (l == 0) = false := by simp [h0]
        have hd0 : (d == 0) = false := by simp; omega
        clear h0
        go_wp2_with fail
        refine (HLn.out _ P.out).mono ?_
        rintro e w2 ⟨rfl, k1, rfl⟩
        go_wp2_with fail
        refine (HD'.out _ (P.out.drewN _)).mono ?_
        rintro e w2 ⟨rfl, k2, rfl⟩
        go_wp2_with fail
        refine (HLn.out _ (P.out.drewN _)).mono ?_
        rintro e w2 ⟨rfl, k3, rfl⟩
        go_wp2_with fail
        refine (HI'.out _ (P.out.drewN _)).mono ?_
        rintro e w2 ⟨rfl, rfl⟩
        go_wp2_with fail
        refine (HI1.out _ (P.out.drewN _)).mono ?_
        rintro e w2 ⟨rfl, rfl⟩
        go_wp2_with fail
        refine (HI0.out _ (P.out.drewN _)).mono ?_
        rintro e w2 ⟨rfl, rfl⟩
        go_wp2_with fail
        refine (HLn.out _ (P.out.drewN _)).mono ?_
        rintro e w2 ⟨rfl, k4, rfl⟩
        go_wp2_with fail
        refine (works36 _).mono ?_
        rintro e w2 ⟨rfl, b2⟩
        go_wp2_with fail
        go_ret
        exact ⟨rfl, (below_drewN B.out _).trans (b2.mono (by exact B.out.size))⟩
set_option maxRecDepth 100000 in
theorem peersDraw_lifted (os : Os) (started : os.Started) (H : Type) (enc : TypeId × Value → H) :
    ReturnsInHanded {} Try.checked os 5 .any (Rows.peersDrawSpec.pre6 enc Try.prog Try.f5 Rows.peersDrawRow.domain false) (Rows.peersDrawSpec.post enc Try.prog Try.f5 false true false false) := by
  refine returnsInHanded_of_change (C := Try.checked) own started (by kernel_rfl) Try.func5
    (ChangeSpec.witness6 (enc := enc) (C := Try.checked) false ⟨#[], #[.int .u8 0, .int .i64 0, .int .u64 0], []⟩ 8 (by kernel_rfl) (by kernel_rfl) (by kernel_rfl) (by kernel_rfl)) ?_
  intro W base args ds gs before hval0 hW _ _
  have hval : ∀ (j : Nat) t v, Try.f5.params[j]? = some t → args[j]? = some v → Value.okWide Try.prog W .any base t v := hval0
  have hW' := hW
  obtain ⟨p, q, hA0, hV, hps, hfz, hnd⟩ := hW
  have hA : DataW.TrodAll enc Try.prog W 0 (fun _ => true) true Try.f5.params.toList args.toList ds p := hA0
  rw [Try.params5] at hA hval
  obtain ⟨v0, vs0, d0, ds0, p0, q0, hargs, rfl, hp0, h0, r0⟩ := trodAll_cons hA
  obtain ⟨v1, vs1, d1, ds1, p1, q1, rfl, rfl, hp1, h1, r1⟩ := trodAll_cons r0
  obtain ⟨v2, vs2, d2, ds2, p2, q2, rfl, rfl, hp2, h2, r2⟩ := trodAll_cons r1
  obtain ⟨rfl, rfl, _⟩ := trodAll_nil r2
  obtain rfl : args = #[v0, v1, v2] := by cases args; simp_all
  obtain ⟨rfl, _⟩ := trodVars_none hV
  obtain ⟨a0, rfl, rfl, rfl, w0⟩ := open_int Try.underlying5 (hval 0 5 v0 rfl rfl) h0
  obtain ⟨a1, rfl, rfl, rfl, w1⟩ := open_int Try.underlying3 (hval 1 3 v1 rfl rfl) h1
  obtain ⟨a2, rfl, rfl, rfl, w2⟩ := open_int Try.underlying25 (hval 2 25 v2 rfl rfl) h2
  refine (peersDraw_walk a0 w0 a1 w1 a2 w2 W).mono fun e W' ⟨he, bel⟩ => ?_
  subst he
  exact ⟨_, rfl, law_post (tb := 4) Try.underlying4 rfl (typesOk_of (by kernel_rfl)) hW' rfl rfl bel⟩
theorem peersDraw_holds : Rows.PeersDrawSaid :=
  OpenClaim.holds_of_wide 5 Try.f5 rfl rfl rfl rfl rfl rfl rfl ⟨rfl, rfl, rfl, rfl, rfl⟩ rfl rfl rfl rfl rfl (by kernel_rfl) Try.func5 (by kernel_rfl)
    (of_decide_eq_true (by kernel_rfl)) (by unfold Func.isWrapper; first | (rw [if_pos (by decide +kernel)]; kernel_rfl) | (rw [if_neg (by decide +kernel)]; exact ⟨rfl, rfl⟩))
    (fun os started H enc _ => peersDraw_lifted os started H enc)
end Go.Proofs.Ytlebhalaodmkhaa
