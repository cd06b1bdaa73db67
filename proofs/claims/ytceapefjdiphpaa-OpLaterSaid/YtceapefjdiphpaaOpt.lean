/- The chapter's example, and the statement on which operations may be. -/
import Derived.Test.YtceapefjdiphpaaOpg
import Derived.Deep.RegionHeld3
namespace Go.Proofs.Ytceapefjdiphpaa
open Go.RowKit

theorem ret_drewn {w w' : World} (h : ∃ n, w' = w.drewN n) : Below w.heap.size w w' := by obtain ⟨n, rfl⟩ := h; exact below_drewN (Below.refl _ _) _
set_option maxRecDepth 100000 in
set_option maxHeartbeats 1000000 in
theorem works17 (w : World) : Calls Try.prog 31 #[] w (RetB w (.bool true)) := by
  have e1 : opGood 1 2 1 3 ⟨1, 2, 0⟩ ⟨0, 0, 0⟩ (ByteArray.mk #[]) = true := by decide
  have e2 : opGood 1 2 1 3 ⟨1, 2, 1⟩ ⟨0, 0, 0⟩ (ByteArray.mk #[]) = false := by decide
  have g1 := Lib.hid (fun w => good_any 1 2 1 3 ⟨1, 2, 0⟩ ⟨0, 0, 0⟩ (ByteArray.mk #[]) w (by omega) (by omega) (by omega) (by simp [VidV.ok]) (by simp [VidV.ok]) (by decide))
  have g2 := Lib.hid (fun w => good_any 1 2 1 3 ⟨1, 2, 1⟩ ⟨0, 0, 0⟩ (ByteArray.mk #[]) w (by omega) (by omega) (by omega) (by simp [VidV.ok]) (by simp [VidV.ok]) (by decide))
  rw [e1] at g1
  rw [e2] at g2
  clear e1 e2
  have B0 := Lib.hid (below_box w (.cells #[.int .u8 1, .int .u16 2] 38))
  have V := Blk.new w 38 #[.int .u8 1, .int .u16 2]
  go_enter Try.func31, Try.ntmps31
  go_wp2_with fail
  refine (g1.out _).mono ?_
  rintro e w1 ⟨rfl, b1⟩
  have k0 := (b1.cell (p := ⟨w.heap.size, 0, none⟩) (by simp)).trans (V.cell 0)
  have k1 := (b1.cell (p := ⟨w.heap.size, 1, none⟩) (by simp)).trans (V.cell 1)
  have B1 := Lib.hid (ext_trans B0.out b1)
  clear V b1
  go_wp2_with fail
  refine (g2.out _).mono ?_
  rintro e w2 ⟨rfl, b2⟩
  have B2 := Lib.hid (ext_trans B1.out b2)
  clear b2
  go_wp2_with (go_at_call 32; refine (makes_any _ _ (by omega)).mono ?_; rintro e w3 ⟨rfl, rfl⟩)
  go_ret
  exact ⟨rfl, B2.out⟩

set_option maxRecDepth 100000 in
set_option maxHeartbeats 1000000 in
theorem opTells_core (a s i k : Int) (x y : VidV) (t : ByteArray) (w : World) (ha : 0 ≤ a ∧ a < 256) (hs : 0 ≤ s ∧ s < 65536) (hk : 0 ≤ k ∧ k < 256) (hx : x.ok) (hy : y.ok) (ht : t.size ≤ maxLen) :
    Calls Try.prog 7 #[pidC a s, .int .i64 i, opC k x y t] w (RetB w (.bool true)) := by
  have M1 := Lib.hid (fun w => makes_any k w hk)
  have M2 := Lib.hid (fun w => rmakes_any k w hk)
  have R1 := Lib.hid (fun w => refs_any k x y t w hk)
  have R2 := Lib.hid (fun w => rrefs_any k x y t w hk)
  have SM := Lib.hid (fun A B c d w => same_any A B (refsV k x y) c d w (by have := refsV_le k x y; omega))
  have G1 := Lib.hid (fun w => good_any a s i k x y t w ha hs hk hx hy ht)
  have G2 := Lib.hid (fun w => rgood_any a s i k x y t w ha hs hk hx hy ht)
  generalize refsV k x y = l at *
  generalize opGood a s i k x y t = g at *
  generalize makesB k = m at *
  have P1 := (((pidAt_new w 38 a s _ rfl).keep (below_box (w.alloc (.cells #[.int .u8 a, .int .u16 s] 38)) (.cells #[.int .u8 k, .int .u8 x.a, .int .u16 x.s, .int .u8 x.n, .int .u8 y.a, .int .u16 y.s, .int .u8 y.n, .string t] 47))))
  have O1 := (opAt_new (w.alloc (.cells #[.int .u8 a, .int .u16 s] 38)) 47 k x y t (w.heap.size + 1) (by simp))
  have B1 := Lib.hid (ext_trans (below_box w (.cells #[.int .u8 a, .int .u16 s] 38)) (below_box _ (.cells #[.int .u8 k, .int .u8 x.a, .int .u16 x.s, .int .u8 x.n, .int .u8 y.a, .int .u16 y.s, .int .u8 y.n, .string t] 47)))
  clear hk hx hy ht
  by_cases c : (t.size : Int) > 300
  · go_enter Try.func7, Try.ntmps7
    go_wp2_with (go_at_call 31; refine (works17 _).mono ?_; rintro e w3 ⟨rfl, hb⟩)
    go_ret
    exact ⟨rfl, ext_trans B1.out hb⟩
  · have d : decide ((t.size : Int) > 300) = false := decide_eq_false c
    go_enter Try.func7, Try.ntmps7
    go_wp2_with fail
    generalize ((w.alloc (.cells #[.int .u8 a, .int .u16 s] 38)).alloc (.cells #[.int .u8 k, .int .u8 x.a, .int .u16 x.s, .int .u8 x.n, .int .u8 y.a, .int .u16 y.s, .int .u8 y.n, .string t] 47)) = w0 at *
    have KS : Hid (∀ w', Below w0.heap.size w0 w' → (Below w0.heap.size w0 w' ∧ w'.cell? ⟨w.heap.size, 0, none⟩ = some (.int .u8 a) ∧ w'.cell? ⟨w.heap.size, 1, none⟩ = some (.int .u16 s) ∧
      w'.cell? ⟨w.heap.size + 1, 0, none⟩ = some (.int .u8 k) ∧ w'.cell? ⟨w.heap.size + 1, 1, none⟩ = some (.int .u8 x.a) ∧ w'.cell? ⟨w.heap.size + 1, 2, none⟩ = some (.int .u16 x.s) ∧ w'.cell? ⟨w.heap.size + 1, 3, none⟩ = some (.int .u8 x.n) ∧
      w'.cell? ⟨w.heap.size + 1, 4, none⟩ = some (.int .u8 y.a) ∧ w'.cell? ⟨w.heap.size + 1, 5, none⟩ = some (.int .u16 y.s) ∧ w'.cell? ⟨w.heap.size + 1, 6, none⟩ = some (.int .u8 y.n) ∧ w'.cell? ⟨w.heap.size + 1, 7, none⟩ = some (.string t))) := by
      intro w' h
      obtain ⟨p0, p1, _⟩ := P1.keep h
      obtain ⟨o0, o1, o2, o3, o4, o5, o6, o7, _⟩ := O1.keep h
      exact ⟨h, p0, p1, o0, o1, o2, o3, o4, o5, o6, o7⟩
    clear P1 O1
    go_region_held3 (fun w' => (Below w0.heap.size w0 w' ∧ w'.cell? ⟨w.heap.size, 0, none⟩ = some (.int .u8 a) ∧ w'.cell? ⟨w.heap.size, 1, none⟩ = some (.int .u16 s) ∧
      w'.cell? ⟨w.heap.size + 1, 0, none⟩ = some (.int .u8 k) ∧ w'.cell? ⟨w.heap.size + 1, 1, none⟩ = some (.int .u8 x.a) ∧ w'.cell? ⟨w.heap.size + 1, 2, none⟩ = some (.int .u16 x.s) ∧ w'.cell? ⟨w.heap.size + 1, 3, none⟩ = some (.int .u8 x.n) ∧
      w'.cell? ⟨w.heap.size + 1, 4, none⟩ = some (.int .u8 y.a) ∧ w'.cell? ⟨w.heap.size + 1, 5, none⟩ = some (.int .u16 y.s) ∧ w'.cell? ⟨w.heap.size + 1, 6, none⟩ = some (.int .u8 y.n) ∧ w'.cell? ⟨w.heap.size + 1, 7, none⟩ = some (.string t)))
      (first | assumption | exact KS.out _ ((Below.refl _ _).drew) | (refine KS.out _ (ext_trans ?_ hb); go_split_ands; assumption))
      (first
        | (go_at_call 32; refine (M1.out _).mono ?_; rintro e w3 ⟨rfl, rfl⟩)
        | (go_at_call 33; refine (M2.out _).mono ?_; rintro e w3 ⟨rfl, rfl⟩)
        | (go_at_call 35; refine (R1.out _).mono ?_; rintro e w3 ⟨A1, c1, rfl, hc1, hs1, hb⟩)
        | (go_at_call 36; refine (R2.out _).mono ?_; rintro e w3 ⟨A2, c2, rfl, hc2, hs2, hb⟩; replace hs1 := (hs1.below hb (Nat.le_refl _)).more hb.size)
        | (go_at_call 34; refine (SM.out _ _ _ _ _ hs1 hs2).mono ?_; rintro e w3 ⟨rfl, hn⟩; have hb := ret_drewn hn)
        | (go_at_call 37; refine (G1.out _).mono ?_; rintro e w3 ⟨rfl, hb⟩)
        | (go_at_call 38; refine (G2.out _).mono ?_; rintro e w3 ⟨rfl, hb⟩)
        | (go_at_call 31; refine (works17 _).mono ?_; rintro e w3 ⟨rfl, hb⟩))
    all_goals (go_split_ands; go_wp2; go_ret)
    all_goals (refine ⟨rfl, B1.out.trans (Below.mono ?_ B1.out.size)⟩; assumption)
end Go.Proofs.Ytceapefjdiphpaa
