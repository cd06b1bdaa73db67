/- ref11.Parse. -/
import Derived.Test.YtmfdggolnfoniaaDoorVide
import Derived.Deep.RegionHeld3
import Derived.Deep.DeepCutAuto
namespace Go.Proofs.YtmfdggolnfoniaaDoor
open Go.RowKit

theorem dotsL_cons2 {l x : List UInt8} {r : List (List UInt8)} (h : dotsL l = x :: r) (hr : r ≠ []) : ∃ m, l = x ++ 46 :: m ∧ dotsL m = r ∧ ∀ c ∈ x, c ≠ 46 := by
  induction l generalizing x with
  | nil => simp [dotsL] at h; exact absurd h.2.symm (Ne.symm hr)
  | cons c l ih =>
    unfold dotsL at h
    split at h
    · rename_i hc
      simp only [List.cons.injEq] at h
      exact ⟨l, by rw [hc, ← h.1]; rfl, h.2, by rw [← h.1]; simp⟩
    · rename_i hc
      cases hd : dotsL l with
      | nil => exact absurd hd (dotsL_ne l)
      | cons y ys =>
        rw [hd] at h
        simp only [addH, List.cons.injEq] at h
        obtain ⟨h1, rfl⟩ := h
        obtain ⟨m, e1, e2, e3⟩ := ih hd
        refine ⟨m, by rw [e1, ← h1]; simp, e2, ?_⟩
        rw [← h1]
        intro d hd'
        simp only [List.singleton_append, List.mem_cons] at hd'
        rcases hd' with rfl | hd'
        · exact hc
        · exact e3 d hd'
theorem dotsL_one {l x : List UInt8} (h : dotsL l = [x]) : l = x := by
  induction l generalizing x with
  | nil => simp [dotsL] at h; exact h.symm
  | cons c l ih =>
    unfold dotsL at h
    split at h
    · simp only [List.cons.injEq] at h; exact absurd h.2 (dotsL_ne l)
    · cases hd : dotsL l with
      | nil => exact absurd hd (dotsL_ne l)
      | cons y ys =>
        rw [hd] at h
        simp only [addH, List.cons.injEq] at h
        obtain ⟨h1, rfl⟩ := h
        rw [ih hd, ← h1]; rfl
theorem dotsL_join3 {l x y z : List UInt8} (h : dotsL l = [x, y, z]) : l = (x ++ 46 :: y) ++ 46 :: z := by
  obtain ⟨m, rfl, h2, _⟩ := dotsL_cons2 h (by simp)
  obtain ⟨k, rfl, h3, _⟩ := dotsL_cons2 h2 (by simp)
  rw [dotsL_one h3]; simp
theorem dotsL_vid (a s n : Nat) : dotsL (vidText a s n) = [Lib.itoa (a : Int), Lib.itoa (s : Int), Lib.itoa (n : Int)] := by
  unfold vidText pidText
  rw [List.append_assoc, List.cons_append, dotsL_dot _ (itoa_dot a), dotsL_dot _ (itoa_dot s), dotsL_free (itoa_dot n)]
theorem rparse_fix (s : ByteArray) (hs : s.size ≤ 100) : ∃ (a n : Nat) (b : Bool), a < 256 ∧ n < 65536 ∧ PR s.data.toList a n b ∧ ∀ w, Calls Tryd.prog 11 #[.string s] w (RetB w (.tuple #[.agg #[.int .u8 a, .int .u16 n], .bool b])) := by
  by_cases h : ∃ a n : Nat, a < 256 ∧ n < 65536 ∧ s.data.toList = pidText a n
  · obtain ⟨a, n, ha, hn, he⟩ := h
    have hp : PR s.data.toList a n true := .inl ⟨rfl, he⟩
    refine ⟨a, n, true, ha, hn, hp, fun w => (rparse_any s w hs).mono fun e w' hr => ?_⟩
    obtain ⟨a', n', b', ha', hn', rfl, hb, r⟩ := parse_form hr
    obtain ⟨rfl, rfl, rfl⟩ := PR_uniq hp r ha hn ha' hn'
    exact ⟨rfl, hb⟩
  · have hp : PR s.data.toList 0 0 false := .inr ⟨rfl, rfl, rfl, fun a n ha hn e => h ⟨a, n, ha, hn, e⟩⟩
    refine ⟨0, 0, false, by omega, by omega, hp, fun w => (rparse_any s w hs).mono fun e w' hr => ?_⟩
    obtain ⟨a', n', b', ha', hn', rfl, hb, r⟩ := parse_form hr
    obtain ⟨rfl, rfl, rfl⟩ := PR_uniq hp r (by omega) (by omega) ha' hn'
    exact ⟨rfl, hb⟩

set_option maxRecDepth 100000 in
set_option maxHeartbeats 8000000 in
theorem rvparse_any (s : ByteArray) (w : World) (hs : s.size ≤ 100) : Calls Tryd.prog 20 #[.string s] w (VRet s.data.toList w) := by
  have hl : s.data.toList.length = s.size := Array.length_toList
  have HD := Lib.hid (fun w0 => dots_any s w0 hs)
  have B0 : Hid (Below w.heap.size w (w.alloc (.cells #[.int .u8 0, .int .u16 0, .int .u8 0] 36))) := below_new _ _
  have K0 : Hid (Blk (w.alloc (.cells #[.int .u8 0, .int .u16 0, .int .u8 0] 36)) w.heap.size 36 #[.int .u8 0, .int .u16 0, .int .u8 0]) := Blk.new _ _ _
  go_enter Tryd.func20, Tryd.ntmps20
  go_wp2_with fail
  refine (HD.out _).mono ?_
  rintro e w1 ⟨A, c, rfl, hc, hsl, b1⟩
  have B1 := Lib.hid (B0.out.trans (b1.mono B0.out.size))
  have K1 := Lib.hid (K0.out.ext b1)
  clear b1 B0 K0 HD
  by_cases h3 : (dotsL s.data.toList).length = 3
  · obtain ⟨x, y, z, hxy⟩ : ∃ x y z, dotsL s.data.toList = [x, y, z] := by
      match hd : dotsL s.data.toList, h3 with
      | [x, y, z], _ => exact ⟨x, y, z, rfl⟩
    rw [hxy] at hc hsl ⊢
    obtain ⟨_, hs2⟩ := hsl
    obtain ⟨b, o, rfl, hb, hcell⟩ := hs2 (by simp)
    have x0 : w1.cell? ⟨b, o, none⟩ = some (.string ⟨x.toArray⟩) := hcell 0 (by simp)
    have x1 : w1.cell? ⟨b, o + 1, none⟩ = some (.string ⟨y.toArray⟩) := hcell 1 (by simp)
    have x2 : w1.cell? ⟨b, o + 2, none⟩ = some (.string ⟨z.toArray⟩) := hcell 2 (by simp)
    have hj := Lib.hid (dotsL_join3 hxy)
    have hxl : x.length + y.length + z.length + 2 = s.size := by
      rw [← hl, hj.out]; simp; omega
    have E := Lib.hid (str_dot x y)
    have hs1 : (⟨(x ++ 46 :: y).toArray⟩ : ByteArray).size ≤ 100 := by
      show (x ++ 46 :: y).toArray.size ≤ 100
      rw [List.size_toArray]; simp; omega
    have Z1 : Hid ((⟨z.toArray⟩ : ByteArray).size ≤ 100) := by
      show z.toArray.size ≤ 100
      rw [List.size_toArray]; omega
    obtain ⟨a, n, k, ha, hn, pr, hp⟩ := rparse_fix _ hs1
    rw [← E.out] at hp
    have HP := Lib.hid hp
    have HPR := Lib.hid pr
    have HA := Lib.hid ha
    have HN := Lib.hid hn
    have W1 : Hid (∀ w', Below w1.heap.size w1 w' → w'.cell? ⟨b, o, none⟩ = some (.string ⟨x.toArray⟩) ∧ w'.cell? ⟨b, o + 1, none⟩ = some (.string ⟨y.toArray⟩) ∧ w'.cell? ⟨b, o + 2, none⟩ = some (.string ⟨z.toArray⟩)) := fun w' h =>
      ⟨(h.cell (p := ⟨b, o, none⟩) hb).trans x0, (h.cell (p := ⟨b, o + 1, none⟩) hb).trans x1, (h.cell (p := ⟨b, o + 2, none⟩) hb).trans x2⟩
    clear hp pr ha hn hcell x0 x1 x2 hs1 h3
    go_upto_region 4 with fail
    go_cut [5, 6] (fun s5 s6 wx => ∃ g : Nat, s5 = .pointer (some ⟨g, 0, none⟩) ∧ s6 = .bool k ∧ Blk wx g 24 #[.int .u8 a, .int .u16 n] ∧ Below w1.heap.size w1 wx)
    case first =>
      have KS : Hid (∀ w', Below w1.heap.size w1 w' → (Below w1.heap.size w1 w' ∧ w'.cell? ⟨b, o, none⟩ = some (.string ⟨x.toArray⟩) ∧ w'.cell? ⟨b, o + 1, none⟩ = some (.string ⟨y.toArray⟩))) := fun w' h =>
        ⟨h, (W1.out w' h).1, (W1.out w' h).2.1⟩
      have lx : x.length ≤ 100 := by omega
      have ly : y.length ≤ 100 := by omega
      have g1 : ¬ 9223372036854775807 < x.length + 1 := by omega
      have g2 : ¬ 9223372036854775807 < x.length + 1 + y.length := by omega
      clear K1 B1 W1
      go_region_held3 (fun w' => (Below w1.heap.size w1 w' ∧ w'.cell? ⟨b, o, none⟩ = some (.string ⟨x.toArray⟩) ∧ w'.cell? ⟨b, o + 1, none⟩ = some (.string ⟨y.toArray⟩)))
        (first | assumption | exact KS.out _ ((Below.refl _ _).drew) | (refine KS.out _ (ext_trans ?_ hb2); go_split_ands; assumption) | (refine KS.out _ (ext_trans ?_ (below_new _ _)); go_split_ands; assumption) | exact KS.out _ (ext_trans hk (below_new _ _)) | exact KS.out _ (below_new _ _).drew | (refine KS.out _ ((hk.setCell ?_ _).setCell ?_ _) <;> first | (simp; done) | (simp; omega)) | (trace_state; fail))
        (first
          | (go_at_call 11; refine (HP.out _).mono ?_; rintro e w3 ⟨rfl, hb2⟩; have hk : Below w1.heap.size w1 w3 := (by (refine ext_trans ?_ hb2; go_split_ands; assumption)); have hz := hk.size; (try (have hK := Blk.ext (show Blk (w1.alloc (.cells #[.int .u8 0, .int .u16 0] 24)).drew w1.heap.size 24 #[.int .u8 0, .int .u16 0] from Blk.new w1 24 #[.int .u8 0, .int .u16 0]) hb2; have q0 := hK.cell 0; have q1 := hK.cell 1; have f0 := hK.fr 0; have f1 := hK.fr 1; simp at q0 q1 f0 f1))))
      all_goals (go_wp2_with fail; go_meet)
      all_goals first
        | exact ⟨_, rfl, rfl, Blk.new _ _ _, ext_trans hk (below_new _ _)⟩
        | exact ⟨_, rfl, rfl, (hK.set_ 0 _).set_ 1 _, (hk.setCell (Nat.le_refl _) _).setCell (Nat.le_refl _) _⟩
    case rest =>
      rename_i wx
      obtain ⟨g, rfl, rfl, hg, hbx⟩ := hcut
      obtain ⟨_, _, y2⟩ := W1.out _ hbx
      have M2 := Lib.hid hg
      have B2 := Lib.hid (B1.out.trans (hbx.mono B1.out.size))
      have K2 := Lib.hid (K1.out.ext hbx)
      clear hg hbx B1 K1 W1 HP E
      go_wp2_with fail
      refine (value_any ⟨z.toArray⟩ 255 _ Z1.out (by omega)).mono ?_
      rintro e w4 ⟨b4, h4⟩
      have B4 := Lib.hid (B2.out.trans (b4.mono B2.out.size))
      have K4 := Lib.hid (K2.out.ext b4)
      have M4 := Lib.hid (M2.out.ext b4)
      clear b4 B2 K2 M2 y2
      have q0 : w4.cell? ⟨g, 0, none⟩ = some (.int .u8 a) := M4.out.cell 0
      have q1 : w4.cell? ⟨g, 1, none⟩ = some (.int .u16 n) := M4.out.cell 1
      have z0 : w4.cell? ⟨w.heap.size, 0, none⟩ = some (.int .u8 0) := K4.out.cell 0
      have z1 : w4.cell? ⟨w.heap.size, 1, none⟩ = some (.int .u16 0) := K4.out.cell 1
      have z2 : w4.cell? ⟨w.heap.size, 2, none⟩ = some (.int .u8 0) := K4.out.cell 2
      have f0 := K4.out.fr 0
      have f1 := K4.out.fr 1
      have f2 := K4.out.fr 2
      clear M4
      rcases h4 with ⟨u, hu, e4, rfl⟩ | ⟨h4, rfl⟩
      · have e4' : z = Lib.itoa (u : Int) := e4
        have u0 : (0 : Int) ≤ (u : Int) := by omega
        cases k with
        | true =>
          have N : Hid (s.data.toList = vidText a n u) := by
            rw [Hid, hj.out]
            rcases HPR.out with h | h
            · have h2 : x ++ 46 :: y = pidText a n := h.2
              rw [h2, e4']; rfl
            · cases h.1
          clear hxy HPR hj e4 e4'
          go_wp2_with fail
          have y0 := (K4.out.set_ 0 (.int .u8 a)).cell 0
          have y1 := ((K4.out.set_ 0 (.int .u8 a)).set_ 1 (.int .u16 n)).cell 1
          have y2 := (((K4.out.set_ 0 (.int .u8 a)).set_ 1 (.int .u16 n)).set_ 2 (.int .u8 u)).cell 2
          refine bodyPost_ret (v := .tuple #[.agg #[.int .u8 a, .int .u16 n, .int .u8 u], .bool true]) ?_ rfl ⟨below_setCell (below_setCell (below_setCell B4.out (Nat.le_refl _)) (Nat.le_refl _)) (Nat.le_refl _), .inl ⟨a, n, u, HA.out, HN.out, by omega, N.out, rfl⟩⟩
          simp [results, Tryd.results20, go_sem, y0, y1, y2]
        | false =>
          have N : Hid (∀ a n m : Nat, a < 256 → n < 65536 → m < 256 → s.data.toList ≠ vidText a n m) := fun a' n' m' ha' hn' hm' e => by
            rw [e, dotsL_vid] at hxy
            simp only [List.cons.injEq] at hxy
            rcases HPR.out with h | ⟨_, _, _, h⟩
            · cases h.1
            · exact h a' n' ha' hn' (by show x ++ 46 :: y = _; rw [← hxy.1, ← hxy.2.1]; rfl)
          clear hxy HPR hj e4 e4'
          go_wp2_with fail
          have y0 := (K4.out.set_ 0 (.int .u8 0)).cell 0
          have y1 := ((K4.out.set_ 0 (.int .u8 0)).set_ 1 (.int .u16 0)).cell 1
          have y2 := (((K4.out.set_ 0 (.int .u8 0)).set_ 1 (.int .u16 0)).set_ 2 (.int .u8 0)).cell 2
          refine bodyPost_ret (v := .tuple #[.agg #[.int .u8 0, .int .u16 0, .int .u8 0], .bool false]) ?_ rfl ⟨below_setCell (below_setCell (below_setCell B4.out (Nat.le_refl _)) (Nat.le_refl _)) (Nat.le_refl _), .inr ⟨N.out, rfl⟩⟩
          simp [results, Tryd.results20, go_sem, y0, y1, y2]
      · have N : Hid (∀ a n m : Nat, a < 256 → n < 65536 → m < 256 → s.data.toList ≠ vidText a n m) := fun a' n' m' ha' hn' hm' e => by
          rw [e, dotsL_vid] at hxy
          simp only [List.cons.injEq] at hxy
          exact h4 m' (by omega) hxy.2.2.1.symm
        clear hxy HPR hj h4
        cases k with
        | true =>
          go_wp2_with fail
          have y0 := (K4.out.set_ 0 (.int .u8 0)).cell 0
          have y1 := ((K4.out.set_ 0 (.int .u8 0)).set_ 1 (.int .u16 0)).cell 1
          have y2 := (((K4.out.set_ 0 (.int .u8 0)).set_ 1 (.int .u16 0)).set_ 2 (.int .u8 0)).cell 2
          refine bodyPost_ret (v := .tuple #[.agg #[.int .u8 0, .int .u16 0, .int .u8 0], .bool false]) ?_ rfl ⟨below_setCell (below_setCell (below_setCell B4.out (Nat.le_refl _)) (Nat.le_refl _)) (Nat.le_refl _), .inr ⟨N.out, rfl⟩⟩
          simp [results, Tryd.results20, go_sem, y0, y1, y2]
        | false =>
          go_wp2_with fail
          have y0 := (K4.out.set_ 0 (.int .u8 0)).cell 0
          have y1 := ((K4.out.set_ 0 (.int .u8 0)).set_ 1 (.int .u16 0)).cell 1
          have y2 := (((K4.out.set_ 0 (.int .u8 0)).set_ 1 (.int .u16 0)).set_ 2 (.int .u8 0)).cell 2
          refine bodyPost_ret (v := .tuple #[.agg #[.int .u8 0, .int .u16 0, .int .u8 0], .bool false]) ?_ rfl ⟨below_setCell (below_setCell (below_setCell B4.out (Nat.le_refl _)) (Nat.le_refl _)) (Nat.le_refl _), .inr ⟨N.out, rfl⟩⟩
          simp [results, Tryd.results20, go_sem, y0, y1, y2]
  · have N : Hid (∀ a n m : Nat, a < 256 → n < 65536 → m < 256 → s.data.toList ≠ vidText a n m) := fun a n m _ _ _ e => h3 (by rw [e, dotsL_vid]; rfl)
    have d1 : (((dotsL s.data.toList).length : Int) != 3) = true := bne_iff_ne.2 (by omega)
    have z0 : w1.cell? ⟨w.heap.size, 0, none⟩ = some (.int .u8 0) := K1.out.cell 0
    have z1 : w1.cell? ⟨w.heap.size, 1, none⟩ = some (.int .u16 0) := K1.out.cell 1
    have z2 : w1.cell? ⟨w.heap.size, 2, none⟩ = some (.int .u8 0) := K1.out.cell 2
    have f0 := K1.out.fr 0
    have f1 := K1.out.fr 1
    have f2 := K1.out.fr 2
    clear hc hsl h3
    generalize (dotsL s.data.toList).length = dn at *
    go_wp2_with fail
    have y0 := (K1.out.set_ 0 (.int .u8 0)).cell 0
    have y1 := ((K1.out.set_ 0 (.int .u8 0)).set_ 1 (.int .u16 0)).cell 1
    have y2 := (((K1.out.set_ 0 (.int .u8 0)).set_ 1 (.int .u16 0)).set_ 2 (.int .u8 0)).cell 2
    refine bodyPost_ret (v := .tuple #[.agg #[.int .u8 0, .int .u16 0, .int .u8 0], .bool false]) ?_ rfl ⟨below_setCell (below_setCell (below_setCell B1.out (Nat.le_refl _)) (Nat.le_refl _)) (Nat.le_refl _), .inr ⟨N.out, rfl⟩⟩
    simp [results, Tryd.results20, go_sem, y0, y1, y2]
end Go.Proofs.YtmfdggolnfoniaaDoor
