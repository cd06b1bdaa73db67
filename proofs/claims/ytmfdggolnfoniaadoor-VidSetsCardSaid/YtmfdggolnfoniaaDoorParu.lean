/- bruitref10.Parse (UNDER WAY). -/
import Derived.Test.YtmfdggolnfoniaaDoorPars
namespace Go.Proofs.YtmfdggolnfoniaaDoor
open Go.RowKit

set_option maxRecDepth 100000 in
set_option maxHeartbeats 4000000 in
theorem rparse_any (s : ByteArray) (w : World) (hs : s.size ≤ 100) : Calls Tryd.prog 11 #[.string s] w (ParseRet s.data.toList w) := by
  have HD := Lib.hid (fun w0 => dots_any s w0 hs)
  have B0 : Hid (Below w.heap.size w (w.alloc (.cells #[.int .u8 0, .int .u16 0] 24))) := below_new' _ _
  have K0 : Hid (Blk (w.alloc (.cells #[.int .u8 0, .int .u16 0] 24)) w.heap.size 24 #[.int .u8 0, .int .u16 0]) := Blk.new _ _ _
  go_enter Tryd.func11, Tryd.ntmps11
  go_wp2_with fail
  refine (HD.out _).mono ?_
  rintro e w1 ⟨A, c, rfl, hc, hsl, b1⟩
  have B1 := Lib.hid (B0.out.trans (b1.mono B0.out.size))
  have K1 := Lib.hid (K0.out.ext b1)
  clear b1 B0 K0 HD
  by_cases h2 : (dotsL s.data.toList).length = 2
  · obtain ⟨x, y, hxy⟩ : ∃ x y, dotsL s.data.toList = [x, y] := by
      match hd : dotsL s.data.toList, h2 with
      | [x, y], _ => exact ⟨x, y, rfl⟩
    rw [hxy] at hc hsl ⊢
    obtain ⟨_, hs2⟩ := hsl
    obtain ⟨b, o, rfl, hb, hcell⟩ := hs2 (by simp)
    have x0 : w1.cell? ⟨b, o, none⟩ = some (.string ⟨x.toArray⟩) := hcell 0 (by simp)
    have x1 : w1.cell? ⟨b, o + 1, none⟩ = some (.string ⟨y.toArray⟩) := hcell 1 (by simp)
    have hj := dotsL_join hxy
    have hxl : x.length + y.length + 1 = s.size := by
      have := congrArg List.length hj
      rw [show s.data.toList.length = s.size from Array.length_toList] at this
      simp only [List.length_append, List.length_cons] at this
      omega
    have X1 : Hid ((⟨x.toArray⟩ : ByteArray).size ≤ 100) := by
      show x.toArray.size ≤ 100
      rw [List.size_toArray]; omega
    have Y1 : Hid ((⟨y.toArray⟩ : ByteArray).size ≤ 100) := by
      show y.toArray.size ≤ 100
      rw [List.size_toArray]; omega
    go_wp2_with fail
    refine (value_any ⟨x.toArray⟩ 255 w1 X1.out (by omega)).mono ?_
    rintro e w2 ⟨b2, h2⟩
    have B2 := Lib.hid (B1.out.trans (b2.mono B1.out.size))
    have K2 := Lib.hid (K1.out.ext b2)
    have x1' : w2.cell? ⟨b, o + 1, none⟩ = some (.string ⟨y.toArray⟩) := by rw [b2.cell (p := ⟨b, o + 1, none⟩) hb]; exact x1
    clear b2 B1 K1 x0 x1
    rcases h2 with ⟨n, hn, e1, rfl⟩ | ⟨h2, rfl⟩
    · go_wp2_with fail
      refine (value_any ⟨y.toArray⟩ 65535 w2 Y1.out (by omega)).mono ?_
      rintro e w3 ⟨b3, h3⟩
      have B3 := Lib.hid (B2.out.trans (b3.mono B2.out.size))
      have K3 := Lib.hid (K2.out.ext b3)
      have z0 : w3.cell? ⟨w.heap.size, 0, none⟩ = some (.int .u8 0) := K3.out.cell 0
      have z1 : w3.cell? ⟨w.heap.size, 1, none⟩ = some (.int .u16 0) := K3.out.cell 1
      have f0 := K3.out.fr 0
      have f1 := K3.out.fr 1
      clear b3 B2 K2 hxl
      rcases h3 with ⟨m, hm, e2, rfl⟩ | ⟨h3, rfl⟩
      · have e1' : x = Lib.itoa (n : Int) := e1
        have e2' : y = Lib.itoa (m : Int) := e2
        have N := Lib.hid (show s.data.toList = pidText n m by rw [hj, e1', e2']; rfl)
        have u0 : (0 : Int) ≤ (n : Int) := by omega
        have v0 : (0 : Int) ≤ (m : Int) := by omega
        clear hj e1 e2 e1' e2' hxy
        go_wp2_with fail
        have K8 : Blk _ _ _ _ := (K3.out.set_ 0 (.int .u8 n)).set_ 1 (.int .u16 m)
        have y0 := K8.cell 0
        have y1 := K8.cell 1
        refine bodyPost_ret (v := .tuple #[.agg #[.int .u8 n, .int .u16 m], .bool true]) ?_ rfl ⟨below_setCell2 (below_setCell2 B3.out (Nat.le_refl _)) (Nat.le_refl _), .inl ⟨n, m, by omega, by omega, N.out, rfl⟩⟩
        simp [results, Tryd.results11, go_sem, y0, y1]
      · have N : Hid (∀ a n : Nat, a < 256 → n < 65536 → s.data.toList ≠ pidText a n) := fun a n ha hn e => by
          rw [e, dotsL_pid] at hxy
          simp only [List.cons.injEq] at hxy
          exact h3 n (by omega) hxy.2.1.symm
        clear hj h3
        go_wp2_with fail
        have K8 : Blk _ _ _ _ := (K3.out.set_ 0 (.int .u8 0)).set_ 1 (.int .u16 0)
        have y0 := K8.cell 0
        have y1 := K8.cell 1
        refine bodyPost_ret (v := .tuple #[.agg #[.int .u8 0, .int .u16 0], .bool false]) ?_ rfl ⟨below_setCell2 (below_setCell2 B3.out (Nat.le_refl _)) (Nat.le_refl _), .inr ⟨N.out, rfl⟩⟩
        simp [results, Tryd.results11, go_sem, y0, y1]
    · go_wp2_with fail
      refine (value_any ⟨y.toArray⟩ 65535 w2 Y1.out (by omega)).mono ?_
      rintro e w3 ⟨b3, h3⟩
      have B3 := Lib.hid (B2.out.trans (b3.mono B2.out.size))
      have K3 := Lib.hid (K2.out.ext b3)
      have N : Hid (∀ a n : Nat, a < 256 → n < 65536 → s.data.toList ≠ pidText a n) := fun a n ha hn e => by
        rw [e, dotsL_pid] at hxy
        simp only [List.cons.injEq] at hxy
        exact h2 a (by omega) hxy.1.symm
      have z0 : w3.cell? ⟨w.heap.size, 0, none⟩ = some (.int .u8 0) := K3.out.cell 0
      have z1 : w3.cell? ⟨w.heap.size, 1, none⟩ = some (.int .u16 0) := K3.out.cell 1
      have f0 := K3.out.fr 0
      have f1 := K3.out.fr 1
      clear b3 B2 K2 hj hxl h2
      rcases h3 with ⟨m, hm, e2, rfl⟩ | ⟨h3, rfl⟩
      all_goals
        go_wp2_with fail
        have K8 : Blk _ _ _ _ := (K3.out.set_ 0 (.int .u8 0)).set_ 1 (.int .u16 0)
        have y0 := K8.cell 0
        have y1 := K8.cell 1
        refine bodyPost_ret (v := .tuple #[.agg #[.int .u8 0, .int .u16 0], .bool false]) ?_ rfl ⟨below_setCell2 (below_setCell2 B3.out (Nat.le_refl _)) (Nat.le_refl _), .inr ⟨N.out, rfl⟩⟩
        simp [results, Tryd.results11, go_sem, y0, y1]
  · have N : Hid (∀ a n : Nat, a < 256 → n < 65536 → s.data.toList ≠ pidText a n) := fun a n _ _ e => h2 (by rw [e, dotsL_pid]; rfl)
    have d1 : (((dotsL s.data.toList).length : Int) != 2) = true := bne_iff_ne.2 (by omega)
    have z0 : w1.cell? ⟨w.heap.size, 0, none⟩ = some (.int .u8 0) := K1.out.cell 0
    have z1 : w1.cell? ⟨w.heap.size, 1, none⟩ = some (.int .u16 0) := K1.out.cell 1
    have f0 := K1.out.fr 0
    have f1 := K1.out.fr 1
    clear hc hsl
    generalize (dotsL s.data.toList).length = dn at *
    go_wp2_with fail
    have K8 : Blk _ _ _ _ := (K1.out.set_ 0 (.int .u8 0)).set_ 1 (.int .u16 0)
    have y0 := K8.cell 0
    have y1 := K8.cell 1
    refine bodyPost_ret (v := .tuple #[.agg #[.int .u8 0, .int .u16 0], .bool false]) ?_ rfl ⟨below_setCell2 (below_setCell2 B1.out (Nat.le_refl _)) (Nat.le_refl _), .inr ⟨N.out, rfl⟩⟩
    simp [results, Tryd.results11, go_sem, y0, y1]
end Go.Proofs.YtmfdggolnfoniaaDoor
