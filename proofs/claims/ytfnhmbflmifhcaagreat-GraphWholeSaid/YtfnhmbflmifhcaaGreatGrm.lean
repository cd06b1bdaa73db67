/- Two graphs that hold the same are the same: graph.Same, walked for that case. -/
import Derived.Test.YtfnhmbflmifhcaaGreatGrl
import Derived.Test.YtfnhmbflmifhcaaGreatKinds
namespace Go.Proofs.YtfnhmbflmifhcaaGreat
open Go.RowKit

/-- vertices in a slice -/
structure VertsAt (w : World) (A : Option Addr) (n : Nat) (l : List VertV) : Prop where
  len : l.length = n
  sl : Sl w w.heap.size 9 A n (l.flatMap encX)
theorem VertsAt.ext {w w' : World} {A : Option Addr} {n : Nat} {l : List VertV} (h : VertsAt w A n l) (hb : Below w.heap.size w w') : VertsAt w' A n l := ⟨h.len, (h.sl.below hb (Nat.le_refl _)).more hb.size⟩
theorem VertsAt.at_ {w : World} {A : Option Addr} {n : Nat} {l : List VertV} (h : VertsAt w A n l) {k : Nat} (hk : k < n) : ∃ b o x, A = some ⟨b, o, none⟩ ∧ b < w.heap.size ∧ l[k]? = some x ∧ w.rangeAt b (o + k * 9) (encX x) := by
  have hk' : k < l.length := by rw [h.len]; exact hk
  obtain ⟨b, o, e, hb, hr⟩ := h.sl.rowAt h.len (fun x _ => encX_len x) hk'
  exact ⟨b, o, l[k], e, hb, List.getElem?_eq_getElem hk', hr⟩
theorem VertsAt.of_own {w : World} {base n : Nat} {v : Value} {l : List VertV} (h : w.ownsRow base 46 9 v n (l.flatMap encX)) (hn : l.length = n) : ∃ A c, v = .slice A n c ∧ n ≤ c ∧ VertsAt w A n l := by
  obtain ⟨A, c, rfl, hc, hs⟩ := Sl.of_own h
  exact ⟨A, c, rfl, hc, hn, hs⟩
/-- steps in a slice -/
structure EdgesAt (w : World) (A : Option Addr) (n : Nat) (l : List EdgeV) : Prop where
  len : l.length = n
  sl : Sl w w.heap.size 6 A n (l.flatMap encE)
theorem EdgesAt.ext {w w' : World} {A : Option Addr} {n : Nat} {l : List EdgeV} (h : EdgesAt w A n l) (hb : Below w.heap.size w w') : EdgesAt w' A n l := ⟨h.len, (h.sl.below hb (Nat.le_refl _)).more hb.size⟩
theorem EdgesAt.at_ {w : World} {A : Option Addr} {n : Nat} {l : List EdgeV} (h : EdgesAt w A n l) {k : Nat} (hk : k < n) : ∃ b o x, A = some ⟨b, o, none⟩ ∧ b < w.heap.size ∧ l[k]? = some x ∧ w.rangeAt b (o + k * 6) (encE x) := by
  have hk' : k < l.length := by rw [h.len]; exact hk
  obtain ⟨b, o, e, hb, hr⟩ := h.sl.rowAt h.len (fun x _ => encE_len x) hk'
  exact ⟨b, o, l[k], e, hb, List.getElem?_eq_getElem hk', hr⟩
theorem EdgesAt.of_own {w : World} {base n : Nat} {v : Value} {l : List EdgeV} (h : w.ownsRow base 64 6 v n (l.flatMap encE)) (hn : l.length = n) : ∃ A c, v = .slice A n c ∧ n ≤ c ∧ EdgesAt w A n l := by
  obtain ⟨A, c, rfl, hc, hs⟩ := Sl.of_own h
  exact ⟨A, c, rfl, hc, hn, hs⟩
theorem neqX_self (x : VertV) (w : World) : (binOp .neq 46 (.agg (encX x).toArray) (.agg (encX x).toArray)).run Tryz.prog w = .ok (.bool false) w := by
  unfold encX
  simp [go_sem]
theorem edgesL_few {L : List PatV} (hG : GrOk L) (hfew : L.length ≤ 400) : (edgesL L).length ≤ 80000 := by
  have h1 : (edgesL L).length ≤ (edgesOf L).length := by unfold edgesL; exact setK_len _
  have h2 : (edgesOf L).length ≤ opsN L := by
    unfold edgesOf opsN
    have : ∀ M : List PatV, (M.flatMap edgesP).length ≤ (M.map fun p => p.2.2.length).sum := by
      intro M
      induction M with
      | nil => simp
      | cons p M ih =>
        rw [List.flatMap_cons, List.length_append, List.map_cons, List.sum_cons]
        have : (edgesP p).length ≤ p.2.2.length := by
          unfold edgesP
          exact List.length_filterMap_le _ _
        omega
    exact this L
  have := hG.opsN
  omega
theorem neqE_self (x : EdgeV) (w : World) : (binOp .neq 64 (.agg (encE x).toArray) (.agg (encE x).toArray)).run Tryz.prog w = .ok (.bool false) w := by
  obtain ⟨kl, hk⟩ := kKeyE x
  obtain ⟨r, hr, hiff⟩ := run_equal_deep (P := Tryz.prog) w (m := 4) (by omega) (k := 64) (by kernel_rfl) (by kernel_rfl) hk hk
  obtain rfl : r = true := hiff.2 rfl
  have hr' : (Op.equalIn 10000 64 (.agg (encE x).toArray) (.agg (encE x).toArray)).run Tryz.prog w = .ok true w := hr
  clear hr
  generalize (encE x).toArray = E at *
  simp [go_sem, hr']
set_option maxRecDepth 100000 in
set_option maxHeartbeats 1000000 in
theorem equalX (l : List VertV) (w : World) (A A' : Option Addr) (n c c' : Nat) (h : VertsAt w A n l) (h' : VertsAt w A' n l) (hm : n ≤ maxLen) :
    Calls Tryz.prog 87 #[.slice A n c, .slice A' n c'] w (RetD w (.bool true)) := by
  unfold maxLen at hm
  have H := Lib.hid h
  have H' := Lib.hid h'
  clear h h'
  go_enter Tryz.func87, Tryz.ntmps87
  go_wp2_with fail
  go_loopw [13] (fun i wr => ∃ k : Nat, k ≤ n ∧ i = .int .i64 k ∧ ∃ q, wr = w.drewN q) (fun i _ => n - (intOf i).toNat)
  case atStart => exact ⟨0, by omega, rfl, 0, rfl⟩
  case round =>
    obtain ⟨k, hk, rfl, q, rfl⟩ := hrel
    by_cases hlt : k < n
    · obtain ⟨b, o, x, rfl, hb, hx, R1⟩ := H.out.at_ hlt
      obtain ⟨b', o', y, rfl, hb', hy, R2⟩ := H'.out.at_ hlt
      obtain rfl : x = y := Option.some.inj (hx.symm.trans hy)
      have R1 := Lib.hid R1
      have R2 := Lib.hid R2
      have hlk : (k : Int) < (n : Int) := by omega
      have hk0 : (0 : Int) ≤ (k : Int) := by omega
      have NE' := fun u => neqX_self x u
      clear hx hy
      go_wp2_with fail
      refine wp_region_quiet_lit (by kernel_rfl) (by kernel_rfl) ?_
      repeat (first | (refine wpQuiet_load_mid (rangeAt_drewN2 R1.out) underVert rfl infoVert rfl rfl ?_; simp only [List.set_cons_succ, List.set_cons_zero]) | (refine wpQuiet_load_mid (rangeAt_drewN2 R2.out) underVert rfl infoVert rfl rfl ?_; simp only [List.set_cons_succ, List.set_cons_zero]) | go_big_quiet_step (fail))
      refine wpQuiet_nil ?_
      rintro _ ⟨nq, rfl⟩
      go_wp2_with fail
      go_roundw
      case rel => exact ⟨k + 1, by omega, by go_num, ⟨_, rfl⟩⟩
      case measure => simp [intOf]; omega
    · go_wp2
      go_ret
      exact ⟨rfl, q, rfl⟩
set_option maxRecDepth 100000 in
set_option maxHeartbeats 1000000 in
theorem equalE (l : List EdgeV) (w : World) (A A' : Option Addr) (n c c' : Nat) (h : EdgesAt w A n l) (h' : EdgesAt w A' n l) (hm : n ≤ maxLen) :
    Calls Tryz.prog 88 #[.slice A n c, .slice A' n c'] w (RetD w (.bool true)) := by
  unfold maxLen at hm
  have H := Lib.hid h
  have H' := Lib.hid h'
  clear h h'
  go_enter Tryz.func88, Tryz.ntmps88
  go_wp2_with fail
  go_loopw [13] (fun i wr => ∃ k : Nat, k ≤ n ∧ i = .int .i64 k ∧ ∃ q, wr = w.drewN q) (fun i _ => n - (intOf i).toNat)
  case atStart => exact ⟨0, by omega, rfl, 0, rfl⟩
  case round =>
    obtain ⟨k, hk, rfl, q, rfl⟩ := hrel
    by_cases hlt : k < n
    · obtain ⟨b, o, x, rfl, hb, hx, R1⟩ := H.out.at_ hlt
      obtain ⟨b', o', y, rfl, hb', hy, R2⟩ := H'.out.at_ hlt
      obtain rfl : x = y := Option.some.inj (hx.symm.trans hy)
      have R1 := Lib.hid R1
      have R2 := Lib.hid R2
      have hlk : (k : Int) < (n : Int) := by omega
      have hk0 : (0 : Int) ≤ (k : Int) := by omega
      have NE' := fun u => neqE_self x u
      clear hx hy
      go_wp2_with fail
      refine wp_region_quiet_lit (by kernel_rfl) (by kernel_rfl) ?_
      repeat (first | (refine wpQuiet_load_mid (rangeAt_drewN2 R1.out) underEdge rfl infoEdge rfl rfl ?_; simp only [List.set_cons_succ, List.set_cons_zero]) | (refine wpQuiet_load_mid (rangeAt_drewN2 R2.out) underEdge rfl infoEdge rfl rfl ?_; simp only [List.set_cons_succ, List.set_cons_zero]) | go_big_quiet_step (fail))
      refine wpQuiet_nil ?_
      rintro _ ⟨nq, rfl⟩
      go_wp2_with fail
      go_roundw
      case rel => exact ⟨k + 1, by omega, by go_num, ⟨_, rfl⟩⟩
      case measure => simp [intOf]; omega
    · go_wp2
      go_ret
      exact ⟨rfl, q, rfl⟩
set_option maxRecDepth 100000 in
set_option maxHeartbeats 2000000 in
theorem gsame_any {w : World} {F F' : Nat → Prop} {g g' : Nat} {L L' : List PatV} (h : GraphAt w F g L) (h' : GraphAt w F' g' L') (hf : L.length ≤ 400) (hf' : L'.length ≤ 400)
    (ev : vecL L' = vecL L) (ex : vertsL L' = vertsL L) (ee : edgesL L' = edgesL L) : Calls Tryz.prog 34 #[.pointer (some ⟨g, 0, none⟩), .pointer (some ⟨g', 0, none⟩)] w (RetB w (.bool true)) := by
  have hlx := vertsL_few h.ok hf
  have hle := edgesL_few h.ok hf
  have HV1 := Lib.hid (fun (u : World) (hu : Below w.heap.size w u) => vec20_any (h.ext hu).mem)
  have HV2 := Lib.hid (fun (u : World) (hu : Below w.heap.size w u) => vec20_any (h'.ext hu).mem)
  have HX1 := Lib.hid (fun (u : World) (hu : Below w.heap.size w u) => verts20_any (h.ext hu) hf)
  have HX2 := Lib.hid (fun (u : World) (hu : Below w.heap.size w u) => verts20_any (h'.ext hu) hf')
  have HE1 := Lib.hid (fun (u : World) (hu : Below w.heap.size w u) => edges20_any (h.ext hu) hf)
  have HE2 := Lib.hid (fun (u : World) (hu : Below w.heap.size w u) => edges20_any (h'.ext hu) hf')
  rw [ev] at HV2
  rw [ex] at HX2
  rw [ee] at HE2
  have EQ : ∀ u : World, (binOp .eql 67 (.agg (vecA (vecL L))) (.agg (vecA (vecL L)))).run Tryz.prog u = .ok (.bool true) u := fun u => by rw [eql_vec _ _ (vecL_ok _) (vecL_ok _), decide_eq_true rfl]
  have HQX := Lib.hid (fun (u : World) (A A' : Option Addr) (c c' : Nat) (a : VertsAt u A (vertsL L).length (vertsL L)) (b : VertsAt u A' (vertsL L).length (vertsL L)) => equalX (vertsL L) u A A' _ c c' a b (by unfold maxLen; omega))
  have HQE := Lib.hid (fun (u : World) (A A' : Option Addr) (c c' : Nat) (a : EdgesAt u A (edgesL L).length (edgesL L)) (b : EdgesAt u A' (edgesL L).length (edgesL L)) => equalE (edgesL L) u A A' _ c c' a b (by unfold maxLen; omega))
  clear h h' hf hf' ev ex ee hlx hle
  generalize vertsL L = X at *
  generalize edgesL L = E at *
  generalize vecA (vecL L) = V at *
  obtain ⟨nx, hnx⟩ : ∃ n, n = X.length := ⟨_, rfl⟩
  obtain ⟨ne, hne⟩ : ∃ n, n = E.length := ⟨_, rfl⟩
  rw [← hnx] at HX1 HX2 HQX
  rw [← hne] at HE1 HE2 HQE
  replace hnx := Lib.hid hnx
  replace hne := Lib.hid hne
  go_enter Tryz.func34, Tryz.ntmps34
  go_wp2_with fail
  refine (HV1.out w (Below.refl _ _)).mono ?_
  rintro e w1 ⟨rfl, b1⟩
  have B1 := Lib.hid b1
  clear b1 HV1
  go_wp2_with fail
  refine (HV2.out w1 B1.out).mono ?_
  rintro e w2 ⟨rfl, b2⟩
  have B2 := Lib.hid (ext_trans B1.out b2)
  clear b2 HV2 B1
  go_wp2_with fail
  refine (HX1.out w2 B2.out).mono ?_
  rintro e w3 ⟨_, rfl, o3, b3⟩
  obtain ⟨A3, c3, rfl, _, v3⟩ := VertsAt.of_own o3 hnx.out.symm
  have B3 := Lib.hid (ext_trans B2.out b3)
  have X3 := Lib.hid v3
  clear b3 o3 v3 HX1 B2
  go_wp2_with fail
  refine (HX2.out w3 B3.out).mono ?_
  rintro e w4 ⟨_, rfl, o4, b4⟩
  obtain ⟨A4, c4, rfl, _, v4⟩ := VertsAt.of_own o4 hnx.out.symm
  have B4 := Lib.hid (ext_trans B3.out b4)
  have X3 := Lib.hid (X3.out.ext b4)
  have X4 := Lib.hid v4
  clear b4 o4 v4 HX2 B3
  go_wp2_with fail
  refine (HQX.out w4 _ _ _ _ X3.out X4.out).mono ?_
  rintro e w5 ⟨rfl, q5, rfl⟩
  have B5 := Lib.hid (below_drewN B4.out q5)
  clear B4 X3 X4 HQX
  go_wp2_with fail
  refine (HE1.out _ B5.out).mono ?_
  rintro e w6 ⟨_, rfl, o6, b6⟩
  obtain ⟨A6, c6, rfl, _, v6⟩ := EdgesAt.of_own o6 hne.out.symm
  have B6 := Lib.hid (ext_trans B5.out b6)
  have X6 := Lib.hid v6
  clear b6 o6 v6 HE1 B5
  go_wp2_with fail
  refine (HE2.out w6 B6.out).mono ?_
  rintro e w7 ⟨_, rfl, o7, b7⟩
  obtain ⟨A7, c7, rfl, _, v7⟩ := EdgesAt.of_own o7 hne.out.symm
  have B7 := Lib.hid (ext_trans B6.out b7)
  have X6 := Lib.hid (X6.out.ext b7)
  have X7 := Lib.hid v7
  clear b7 o7 v7 HE2 B6
  go_wp2_with fail
  refine (HQE.out w7 _ _ _ _ X6.out X7.out).mono ?_
  rintro e w8 ⟨rfl, q8, rfl⟩
  have B8 := Lib.hid (below_drewN B7.out q8)
  clear B7 X6 X7 HQE
  go_wp2
  go_ret
  exact ⟨rfl, B8.out⟩
end Go.Proofs.YtfnhmbflmifhcaaGreat
