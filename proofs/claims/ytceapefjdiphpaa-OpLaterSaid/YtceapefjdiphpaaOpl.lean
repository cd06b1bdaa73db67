/- What may stand at a place may stand at any later one. -/
import Derived.Test.YtceapefjdiphpaaOpt
namespace Go.Proofs.Ytceapefjdiphpaa
open Go.RowKit

theorem refOk_mono {a s i j : Int} (hij : i ≤ j) (v : VidV) (h : refOk a s i v = true) : refOk a s j v = true := by
  unfold refOk at *; simp at *; exact ⟨h.1, h.2.imp id (fun h => by omega)⟩
theorem opGood_mono {a s i j k : Int} {x y : VidV} {t : ByteArray} (hij : i ≤ j) (h : opGood a s i k x y t = true) : opGood a s j k x y t = true := by
  unfold opGood at *
  rw [Bool.and_eq_true] at *
  refine ⟨?_, h.2⟩
  rw [List.all_eq_true] at *
  exact fun v hv => refOk_mono hij v (h.1 v hv)
theorem refOk_off {a s i : Int} {v : VidV} (h : peqV a s v = false) : refOk a s i v = vidOk v.a v.s v.n := by simp [refOk, h]
theorem all_off {a s i : Int} {l : List VidV} (h : l.any (peqV a s) = false) : l.all (refOk a s i) = l.all fun v => vidOk v.a v.s v.n := by
  rw [Bool.eq_iff_iff, List.all_eq_true, List.all_eq_true]
  have h' : ∀ v ∈ l, peqV a s v = false := by simpa using h
  exact ⟨fun H v hv => by rw [← refOk_off (i := i) (h' v hv)]; exact H v hv, fun H v hv => by rw [refOk_off (h' v hv)]; exact H v hv⟩
theorem tail_off {a s a' s' k : Int} {x y : VidV} {t : ByteArray} (h : (refsV k x y).any (peqV a s) = false) (h' : (refsV k x y).any (peqV a' s') = false) : tailOk a s k x y t = tailOk a' s' k x y t := by
  unfold tailOk
  split; rfl
  split; rfl
  split; rfl
  split; rfl
  split
  · rename_i h5
    subst h5
    simp [refsV] at h h'
    rw [h, h']
  · rfl
theorem opGood_same {a s i j k : Int} {x y : VidV} {t : ByteArray} (h : (refsV k x y).any (peqV a s) = false) : opGood a s i k x y t = opGood a s j k x y t := by
  unfold opGood; rw [all_off h, all_off h]
theorem opGood_other {a s a' s' i j k : Int} {x y : VidV} {t : ByteArray} (h : (refsV k x y).any (peqV a s) = false) (h' : (refsV k x y).any (peqV a' s') = false) : opGood a' s' i k x y t = opGood a s j k x y t := by
  unfold opGood; rw [all_off h, all_off h', tail_off h h']
theorem any_snoc (l : List VidV) (p : VidV → Bool) (k : Nat) (h : k < l.length) : (l.take (k+1)).any p = ((l.take k).any p || p l[k]) := by
  rw [List.take_succ_eq_append_getElem h, List.any_append]; simp only [List.any_cons, List.any_nil, Bool.or_false]

theorem wrap_small {i : Int} (h0 : 0 ≤ i) (h1 : i < 256) : IntKind.i64.wrap i = i := by
  simp [IntKind.wrap, IntKind.signed, IntKind.bits]; omega
/-- an operation, and two numbers -/
abbrev twoC (k : Int) (x y : VidV) (t : ByteArray) (i j : Int) : Value :=
  .agg #[.int .u8 k, .int .u8 x.a, .int .u16 x.s, .int .u8 x.n, .int .u8 y.a, .int .u16 y.s, .int .u8 y.n, .string t, .int .u8 i, .int .u8 j]

set_option maxRecDepth 100000 in
set_option maxHeartbeats 2000000 in
theorem opLater_core (a s a' s' i j k : Int) (x y : VidV) (t : ByteArray) (w : World) (ha : 0 ≤ a ∧ a < 256) (hs : 0 ≤ s ∧ s < 65536) (ha' : 0 ≤ a' ∧ a' < 256) (hs' : 0 ≤ s' ∧ s' < 65536) (hi : 0 ≤ i ∧ i < 256) (hj : 0 ≤ j ∧ j < 256) (hk : 0 ≤ k ∧ k < 256) (hx : x.ok) (hy : y.ok) (ht : t.size ≤ maxLen) :
    Calls Try.prog 8 #[pidC a s, pidC a' s', twoC k x y t i j] w (RetB w (.bool true)) := by
  have R1 := Lib.hid (fun w => refs_any k x y t w hk)
  have GM := Lib.hid (fun w => good_any a s (min i j) k x y t w ha hs hk hx hy ht)
  have GX := Lib.hid (fun w => good_any a s (max i j) k x y t w ha hs hk hx hy ht)
  have GO := Lib.hid (fun w => good_any a' s' i k x y t w ha' hs' hk hx hy ht)
  have E1 := Lib.hid (opGood_mono (a := a) (s := s) (i := min i j) (j := max i j) (k := k) (x := x) (y := y) (t := t) (by omega))
  have E2 := Lib.hid (opGood_same (a := a) (s := s) (i := min i j) (j := max i j) (k := k) (x := x) (y := y) (t := t))
  have E3 := Lib.hid (opGood_other (a := a) (s := s) (a' := a') (s' := s') (i := i) (j := min i j) (k := k) (x := x) (y := y) (t := t))
  have HL := refsV_le k x y
  generalize opGood a s (min i j) k x y t = g1 at *
  generalize opGood a s (max i j) k x y t = g2 at *
  generalize opGood a' s' i k x y t = g3 at *
  generalize refsV k x y = l at *
  have P1 := (((pidAt_new w 38 a s _ rfl).keep (below_box _ (.cells #[.int .u8 a', .int .u16 s'] 38))).keep (below_box _ (.cells #[.int .u8 k, .int .u8 x.a, .int .u16 x.s, .int .u8 x.n, .int .u8 y.a, .int .u16 y.s, .int .u8 y.n, .string t, .int .u8 i, .int .u8 j] 55)))
  have P2 := ((pidAt_new (w.alloc (.cells #[.int .u8 a, .int .u16 s] 38)) 38 a' s' (w.heap.size + 1) (by simp)).keep (below_box _ (.cells #[.int .u8 k, .int .u8 x.a, .int .u16 x.s, .int .u8 x.n, .int .u8 y.a, .int .u16 y.s, .int .u8 y.n, .string t, .int .u8 i, .int .u8 j] 55)))
  have K := Lib.hid (Blk.newAt (w := (w.alloc (.cells #[.int .u8 a, .int .u16 s] 38)).alloc (.cells #[.int .u8 a', .int .u16 s'] 38)) (n := w.heap.size + 2) (by simp) 55 #[.int .u8 k, .int .u8 x.a, .int .u16 x.s, .int .u8 x.n, .int .u8 y.a, .int .u16 y.s, .int .u8 y.n, .string t, .int .u8 i, .int .u8 j])
  have B1 := Lib.hid (ext_trans (ext_trans (below_box w (.cells #[.int .u8 a, .int .u16 s] 38)) (below_box _ (.cells #[.int .u8 a', .int .u16 s'] 38))) (below_box _ (.cells #[.int .u8 k, .int .u8 x.a, .int .u16 x.s, .int .u8 x.n, .int .u8 y.a, .int .u16 y.s, .int .u8 y.n, .string t, .int .u8 i, .int .u8 j] 55)))
  clear hk hx hy ht
  obtain ⟨hi0, hi1⟩ := hi
  obtain ⟨hj0, hj1⟩ := hj
  have wi : IntKind.i64.wrap i = i := wrap_small hi0 hi1
  have wj : IntKind.i64.wrap j = j := wrap_small hj0 hj1
  go_enter Try.func8, Try.ntmps8
  go_wp2_with fail
  generalize (((w.alloc (.cells #[.int .u8 a, .int .u16 s] 38)).alloc (.cells #[.int .u8 a', .int .u16 s'] 38)).alloc (.cells #[.int .u8 k, .int .u8 x.a, .int .u16 x.s, .int .u8 x.n, .int .u8 y.a, .int .u16 y.s, .int .u8 y.n, .string t, .int .u8 i, .int .u8 j] 55)) = w0 at *
  have KS : Hid (∀ w', Below w0.heap.size w0 w' → (Below w0.heap.size w0 w' ∧ w'.cell? ⟨w.heap.size + 1 + 1, 0, none⟩ = some (.int .u8 k) ∧ w'.cell? ⟨w.heap.size + 1 + 1, 1, none⟩ = some (.int .u8 x.a) ∧ w'.cell? ⟨w.heap.size + 1 + 1, 2, none⟩ = some (.int .u16 x.s) ∧ w'.cell? ⟨w.heap.size + 1 + 1, 3, none⟩ = some (.int .u8 x.n) ∧ w'.cell? ⟨w.heap.size + 1 + 1, 4, none⟩ = some (.int .u8 y.a) ∧ w'.cell? ⟨w.heap.size + 1 + 1, 5, none⟩ = some (.int .u16 y.s) ∧ w'.cell? ⟨w.heap.size + 1 + 1, 6, none⟩ = some (.int .u8 y.n) ∧ w'.cell? ⟨w.heap.size + 1 + 1, 7, none⟩ = some (.string t) ∧ w'.cell? ⟨w.heap.size + 1 + 1, 8, none⟩ = some (.int .u8 i) ∧ w'.cell? ⟨w.heap.size + 1 + 1, 9, none⟩ = some (.int .u8 j))) := by
    intro w' h
    have K := K.out.ext h
    exact ⟨h, K.cell 0, K.cell 1, K.cell 2, K.cell 3, K.cell 4, K.cell 5, K.cell 6, K.cell 7, K.cell 8, K.cell 9⟩
  go_region_held3 (fun w' => (Below w0.heap.size w0 w' ∧ w'.cell? ⟨w.heap.size + 1 + 1, 0, none⟩ = some (.int .u8 k) ∧ w'.cell? ⟨w.heap.size + 1 + 1, 1, none⟩ = some (.int .u8 x.a) ∧ w'.cell? ⟨w.heap.size + 1 + 1, 2, none⟩ = some (.int .u16 x.s) ∧ w'.cell? ⟨w.heap.size + 1 + 1, 3, none⟩ = some (.int .u8 x.n) ∧ w'.cell? ⟨w.heap.size + 1 + 1, 4, none⟩ = some (.int .u8 y.a) ∧ w'.cell? ⟨w.heap.size + 1 + 1, 5, none⟩ = some (.int .u16 y.s) ∧ w'.cell? ⟨w.heap.size + 1 + 1, 6, none⟩ = some (.int .u8 y.n) ∧ w'.cell? ⟨w.heap.size + 1 + 1, 7, none⟩ = some (.string t) ∧ w'.cell? ⟨w.heap.size + 1 + 1, 8, none⟩ = some (.int .u8 i) ∧ w'.cell? ⟨w.heap.size + 1 + 1, 9, none⟩ = some (.int .u8 j)))
    (first | assumption | exact KS.out _ ((Below.refl _ _).drew) | exact KS.out _ (below_box _ _).drew | (trace_state; fail))
    (fail)
  clear KS K
  have P3 := (P1.keep (below_box _ (.cells #[.int .u8 k, .int .u8 x.a, .int .u16 x.s, .int .u8 x.n, .int .u8 y.a, .int .u16 y.s, .int .u8 y.n, .string t] 47))).keep (Below.refl _ _).drew
  have P4 := (P2.keep (below_box _ (.cells #[.int .u8 k, .int .u8 x.a, .int .u16 x.s, .int .u8 x.n, .int .u8 y.a, .int .u16 y.s, .int .u8 y.n, .string t] 47))).keep (Below.refl _ _).drew
  have O3 := (opAt_new w0 47 k x y t w0.heap.size rfl).keep (Below.refl _ _).drew
  have B2 := Lib.hid (ext_trans B1.out (below_box _ (.cells #[.int .u8 k, .int .u8 x.a, .int .u16 x.s, .int .u8 x.n, .int .u8 y.a, .int .u16 y.s, .int .u8 y.n, .string t] 47)).drew)
  clear P1 P2 B1
  generalize (w0.alloc (.cells #[.int .u8 k, .int .u8 x.a, .int .u16 x.s, .int .u8 x.n, .int .u8 y.a, .int .u16 y.s, .int .u8 y.n, .string t] 47)).drew = w2 at *
  by_cases c : (t.size : Int) > 300
  · obtain ⟨o0, o1, o2, o3, o4, o5, o6, o7, o8⟩ := O3
    go_wp2_with (go_at_call 31; refine (works17 _).mono ?_; rintro e w3 ⟨rfl, hb⟩)
    go_ret
    exact ⟨rfl, ext_trans B2.out hb⟩
  have d : decide ((t.size : Int) > 300) = false := decide_eq_false c
  have o7 := O3.2.2.2.2.2.2.2.1
  go_wp2_with fail
  clear o7
  have q0 := ext_cell P3.1 P3.2.2
  have q1 := ext_cell P3.2.1 P3.2.2
  have ⟨o0, o1, o2, o3, o4, o5, o6, o7, o8⟩ := O3
  have u0 := ext_cell o0 o8
  have u1 := ext_cell o1 o8
  have u2 := ext_cell o2 o8
  have u3 := ext_cell o3 o8
  have u4 := ext_cell o4 o8
  have u5 := ext_cell o5 o8
  have u6 := ext_cell o6 o8
  have u7 := ext_cell o7 o8
  clear o0 o1 o2 o3 o4 o5 o6 o7 o8
  refine wp_region_ext mixedP (by kernel_rfl) ?_
  repeat go_big_quiet_step ((first | (go_at_call 37; with_reducible exact ext_call (GM.out _)) | (go_at_call 37; with_reducible exact ext_call (GX.out _))))
  refine wpQuiet_nil ?_
  rintro _ ⟨z, rfl⟩
  have W := z.h
  generalize z.w = w3 at *
  clear q0 q1 u0 u1 u2 u3 u4 u5 u6 u7
  have P5 := P3.keep W
  have P6 := P4.keep W
  have O5 := O3.keep W
  have B5 := Lib.hid (ext_trans B2.out W)
  clear P3 P4 O3 B2 W
  have hg : (g1 = true ∧ g2 = true) ∨ g1 = false := by
    have := E1.out
    cases g1
    · exact .inr rfl
    · exact .inl ⟨rfl, this rfl⟩
  clear E1
  obtain ⟨o0, o1, o2, o3, o4, o5, o6, o7, o8⟩ := O5
  rcases hg with ⟨rfl, rfl⟩ | rfl
  all_goals
    go_wp2_with fail
    refine (R1.out _).mono ?_
    rintro e w5 ⟨A, c1, rfl, hc1, hs1, hb5⟩
    replace P5 := P5.keep hb5
    replace P6 := P6.keep hb5
    have O6 := OpAt.keep ⟨o0, o1, o2, o3, o4, o5, o6, o7, o8⟩ hb5
    clear o0 o1 o2 o3 o4 o5 o6 o7 o8
    have B6 := Lib.hid (ext_trans B5.out hb5)
    clear B5 hb5
    have HS := Lib.hid hs1
    clear hs1
    go_wp2_with fail
    go_loopw [12, 13, 15] (fun o n z w' => ∃ k m : Nat, k ≤ l.length ∧ z = .int .i64 k ∧ o = .bool ((l.take k).any (peqV a s)) ∧ n = .bool ((l.take k).any (peqV a' s')) ∧ w' = w5.drewN m) (fun _ _ z _ => l.length - (intOf z).toNat)
    case atStart => exact ⟨0, 0, Nat.zero_le _, rfl, rfl, rfl, rfl⟩
    case round =>
      obtain ⟨k, m, hk, rfl, rfl, rfl, rfl⟩ := hrel
      obtain ⟨p0, p1, p2⟩ := P5
      obtain ⟨r0, r1, r2⟩ := P6
      by_cases hlt : k < l.length
      · obtain ⟨b1, n1, rfl, hb1, v0, v1, v2⟩ := at_vid HS.out hlt
        have F1 := Lib.hid (any_snoc l (peqV a s) k hlt)
        have F2 := Lib.hid (any_snoc l (peqV a' s') k hlt)
        have Q1 : Hid (peqV a s l[k] = (decide (l[k].a = a) && decide (l[k].s = s))) := rfl
        have Q2 : Hid (peqV a' s' l[k] = (decide (l[k].a = a') && decide (l[k].s = s'))) := rfl
        obtain ⟨v, hv⟩ : ∃ v, v = l[k] := ⟨_, rfl⟩
        rw [← hv] at v0 v1 v2 F1 F2 Q1 Q2
        clear hv
        generalize (l.take k).any (peqV a s) = own at *
        generalize (l.take k).any (peqV a' s') = nam at *
        have D1 : own = true ∨ (own = false ∧ ¬ v.a = a ∧ Hid (peqV a s v = false)) ∨ (own = false ∧ v.a = a ∧ ¬ v.s = s ∧ Hid (peqV a s v = false)) ∨ (own = false ∧ v.a = a ∧ v.s = s ∧ Hid (peqV a s v = true)) := by
          cases own
          · by_cases h1 : v.a = a
            · by_cases h2 : v.s = s
              · exact .inr (.inr (.inr ⟨rfl, h1, h2, by rw [Hid, Q1.out]; simp [h1, h2]⟩))
              · exact .inr (.inr (.inl ⟨rfl, h1, h2, by rw [Hid, Q1.out]; simp [h2]⟩))
            · exact .inr (.inl ⟨rfl, h1, by rw [Hid, Q1.out]; simp [h1]⟩)
          · exact .inl rfl
        have D2 : nam = true ∨ (nam = false ∧ ¬ v.a = a' ∧ Hid (peqV a' s' v = false)) ∨ (nam = false ∧ v.a = a' ∧ ¬ v.s = s' ∧ Hid (peqV a' s' v = false)) ∨ (nam = false ∧ v.a = a' ∧ v.s = s' ∧ Hid (peqV a' s' v = true)) := by
          cases nam
          · by_cases h1 : v.a = a'
            · by_cases h2 : v.s = s'
              · exact .inr (.inr (.inr ⟨rfl, h1, h2, by rw [Hid, Q2.out]; simp [h1, h2]⟩))
              · exact .inr (.inr (.inl ⟨rfl, h1, h2, by rw [Hid, Q2.out]; simp [h2]⟩))
            · exact .inr (.inl ⟨rfl, h1, by rw [Hid, Q2.out]; simp [h1]⟩)
          · exact .inl rfl
        clear Q1 Q2
        rcases D1 with rfl | ⟨rfl, h1, X1⟩ | ⟨rfl, rfl, h2, X1⟩ | ⟨rfl, rfl, rfl, X1⟩
        all_goals rcases D2 with rfl | ⟨rfl, h3, X2⟩ | ⟨rfl, rfl, h4, X2⟩ | ⟨rfl, rfl, rfl, X2⟩
        all_goals
          go_wp2_with fail
          go_quiet (fail)
          go_wp2_with fail
          go_quiet (fail)
          go_wp2_with fail
          go_roundw
          case rel => exact ⟨k + 1, _, by omega, by go_num, by rw [F1.out]; first | rfl | rw [X1.out]; rfl, by rw [F2.out]; first | rfl | rw [X2.out]; rfl, by first | rfl | rw [World.drewN_drewN] | rw [World.drewN_drewN, World.drewN_drewN]⟩
          case measure => simp [intOf]; omega
      · have hk' : k = l.length := by omega
        subst hk'
        have X2 := E2.out
        have X3 := E3.out
        rw [List.take_length]
        generalize l.any (peqV a s) = own at *
        generalize l.any (peqV a' s') = nam at *
        clear E2 E3
        obtain ⟨y0, y1, y2, y3, y4, y5, y6, y7, y8⟩ := O6
        have TD : own = true ∨ (own = false ∧ nam = true) ∨ (own = false ∧ nam = false) := by
          cases own
          · cases nam
            · exact .inr (.inr ⟨rfl, rfl⟩)
            · exact .inr (.inl ⟨rfl, rfl⟩)
          · exact .inl rfl
        rcases TD with rfl | ⟨rfl, rfl⟩ | ⟨rfl, rfl⟩
        · clear X2 X3
          go_wp2_with (go_at_call 31; refine (works17 _).mono ?_; rintro e w8 ⟨rfl, hb⟩)
          go_ret
          exact ⟨rfl, ext_trans (below_drewN B6.out _) hb⟩
        · have e := X2 rfl
          clear X2 X3
          try subst e
          go_wp2_with (go_at_call 31; refine (works17 _).mono ?_; rintro e w8 ⟨rfl, hb⟩)
          go_ret
          exact ⟨rfl, ext_trans (below_drewN B6.out _) hb⟩
        · have e := X2 rfl
          have e' := X3 rfl rfl
          clear X2 X3
          try subst e
          subst e'
          go_wp2_with (first
            | (go_at_call 31; refine (works17 _).mono ?_; rintro e w9 ⟨rfl, hb2⟩)
            | (go_at_call 37; (with_reducible refine (GO.out _).mono ?_); rintro e w8 ⟨rfl, hb⟩))
          go_ret
          exact ⟨rfl, ext_trans (ext_trans (below_drewN B6.out _) hb) hb2⟩
end Go.Proofs.Ytceapefjdiphpaa
