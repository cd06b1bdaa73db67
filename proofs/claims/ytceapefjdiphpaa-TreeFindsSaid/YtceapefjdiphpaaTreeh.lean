/- Trees: whether a tree may be recorded, by the document. -/
import Derived.Test.YtceapefjdiphpaaTreeg
namespace Go.Proofs.Ytceapefjdiphpaa
open Go.RowKit

theorem goodF_parts {f : FileV} (h0 : nameB f.name.data.toList = true) (h1 : f.also.length = 0) (h2 : f.lines.length ≤ 60) : goodF f = !f.lines.any badL := by
  unfold goodF; rw [h0, decide_eq_true h1, decide_eq_true h2]; rfl
theorem goodF_no0 {f : FileV} (h0 : nameB f.name.data.toList = false) : goodF f = false := by unfold goodF; rw [h0]; rfl
theorem goodF_no1 {f : FileV} (h : f.also.length ≠ 0) : goodF f = false := by unfold goodF; rw [decide_eq_false h]; simp
theorem goodF_no2 {f : FileV} (h : ¬ f.lines.length ≤ 60) : goodF f = false := by unfold goodF; rw [decide_eq_false h]; simp

set_option maxRecDepth 100000 in
set_option maxHeartbeats 8000000 in
theorem rgoodT_any (fs : List FileV) (w : World) (A : Option Addr) (n c : Nat) (hn : fs.length = n) (hm : n ≤ 40) (h : TreeOk w w.heap.size A fs) :
    Calls Try.prog 42 #[.slice A n c] w (RetB w (.bool (goodT fs))) := by
  by_cases h16 : n ≤ 16
  · have HL := Lib.hid hn
    have H := Lib.hid h
    clear h hn
    have hd : ¬ (16 : Int) < (n : Int) := by omega
    go_enter Try.func42, Try.ntmps42
    go_wp2_with fail
    go_loopw [3] (fun i wr => ∃ k : Nat, k ≤ n ∧ i = .int .i64 k ∧ Hid (∀ j, j < k → okAt fs j = true) ∧ Hid (Below w.heap.size w wr)) (fun i _ => n - (intOf i).toNat)
    case atStart => exact ⟨0, by omega, rfl, fun j hj => by omega, Below.refl _ _⟩
    case round =>
      obtain ⟨k, hk, rfl, T, Q⟩ := hrel
      by_cases hlt : k < n
      · obtain ⟨b, o, rfl, hb, F1⟩ := H.out.at_ (k := k) (by rw [HL.out]; exact hlt)
        have G1 := Lib.hid (H.out.ok _ (List.getElem_mem (show k < fs.length by rw [HL.out]; exact hlt)))
        have Q1 : Hid (fs[k]? = some (fs[k]'(by rw [HL.out]; exact hlt))) := List.getElem?_eq_getElem _
        generalize fs[k]'(by rw [HL.out]; exact hlt) = f at *
        have F3 : FileAt wr b (o + k * 3) f := fileAt_of (rangeAt_below F1 Q.out hb)
        obtain ⟨c0, c1, c2⟩ := F3
        clear F1
        have HN := Lib.hid (fun W => rname_any f.name W G1.out.hn)
        have hlk : (k : Int) < (n : Int) := by omega
        have hk0 : (0 : Int) ≤ (k : Int) := by omega
        have NO : Hid (okAt fs k = false → goodT fs = false) := fun h => goodT_no (by rw [HL.out]; exact hlt) h
        have NG : Hid (goodF f = false → okAt fs k = false) := fun hg => by
          cases hkk : k with
          | zero => rw [hkk] at Q1; rw [okAt_zero Q1.out]; exact hg
          | succ j => rw [hkk] at Q1; rw [okAt_succ Q1.out (List.getElem?_eq_getElem (show j < fs.length by rw [HL.out]; omega)), hg]; rfl
        have YES : Hid (okAt fs k = true → ∀ j, j < k + 1 → okAt fs j = true) := fun h j hj => by
          rcases Nat.lt_or_ge j k with h' | h'
          · exact T.out j h'
          · obtain rfl : j = k := by omega
            exact h
        have G2 : Hid (goodF f = (nameB f.name.data.toList && (decide (f.also.length = 0) && (decide (f.lines.length ≤ 60) && !f.lines.any badL)))) := rfl
        clear T
        rcases hnb : nameB f.name.data.toList with _ | _
        · have N := Lib.hid (NO.out (NG.out (goodF_no0 hnb)))
          rw [hnb] at HN
          clear NO NG YES Q1 hnb G2
          go_wp2_with fail
          refine wp_region_quiet_lit (by kernel_rfl) (by kernel_rfl) ?_
          repeat (first | go_big_quiet_skip | go_big_quiet_step ((go_at_call 57; with_reducible exact quiet_ret (HN.out _))))
          refine wpQuiet_nil ?_
          rintro _ ⟨nq, rfl⟩
          go_wp2_with fail
          go_ret
          exact ⟨ret_bool N.out.symm, below_drewN Q.out nq⟩
        · rw [hnb] at HN
          have nb := Lib.hid hnb
          clear hnb G2
          by_cases hz : k = 0
          · have OK : Hid (goodF f = true → okAt fs k = true) := fun h => by subst hz; rw [okAt_zero Q1.out]; exact h
            have dk : decide (0 < k) = false := decide_eq_false (by omega)
            clear Q1 hz
            by_cases h1 : f.also.length = 0
            · have d1 : ((f.also.length : Int) != 0) = false := by simp [h1]
              by_cases h2 : f.lines.length ≤ 60
              · have d2 : decide ((60 : Int) < (f.lines.length : Int)) = false := decide_eq_false (by omega)
                have GF := Lib.hid (goodF_parts nb.out h1 h2)
                have hl60 := h2
                clear h1 h2
                go_wp2_with fail
                refine wp_region_quiet_lit (by kernel_rfl) (by kernel_rfl) ?_
                repeat (first | go_big_quiet_skip | go_big_quiet_step ((go_at_call 57; with_reducible exact quiet_ret (HN.out _))))
                refine wpQuiet_nil ?_
                rintro _ ⟨nq, rfl⟩
                go_wp2_with fail
                have Q2 : Hid (Below w.heap.size w (wr.drewN nq)) := below_drewN Q.out nq
                have E0 : Hid ((wr.drewN nq).cell? ⟨b, o + k * 3 + 2, none⟩ = some (.slice f.L f.lines.length f.d)) := c2
                clear c0 c1 c2 Q
                generalize hwn : wr.drewN nq = wn at *
                clear hwn
                go_loopw [4] (fun i wi => ∃ q : Nat, q ≤ f.lines.length ∧ i = .int .i64 q ∧ Hid ((f.lines.take q).any badL = false) ∧ Hid (Below wn.heap.size wn wi)) (fun i _ => f.lines.length - (intOf i).toNat)
                case atStart => exact ⟨0, by omega, rfl, by simp [Hid], Below.refl _ _⟩
                case round =>
                  obtain ⟨u, hu, rfl, T2, I2⟩ := hrel
                  by_cases hul : u < f.lines.length
                  · have hbn : b < wn.heap.size := Nat.lt_of_lt_of_le hb Q2.out.size
                    have e0 : wr.cell? ⟨b, o + k * 3 + 2, none⟩ = some (.slice f.L f.lines.length f.d) := by rw [I2.out.cell (p := ⟨b, o + k * 3 + 2, none⟩) hbn]; exact E0.out
                    obtain ⟨b2, o2, hA2, hb2, L1⟩ := strs_at G1.out.sl rfl hul
                    rw [hA2] at e0
                    have P1 : Hid (f.lines.take (u + 1) = f.lines.take u ++ [f.lines[u]'hul]) := List.take_succ_eq_append_getElem _
                    have M := Lib.hid (List.getElem_mem hul)
                    generalize f.lines[u]'hul = s at *
                    have e1 : wr.cell? ⟨b2, o2 + u, none⟩ = some (.string s) := by rw [(Q2.out.trans (I2.out.mono Q2.out.size)).cell (p := ⟨b2, o2 + u, none⟩) hb2]; exact L1
                    have HLn := Lib.hid (fun W => rline_any s W (G1.out.zl s M.out))
                    clear hA2 L1
                    have hqk : (u : Int) < (f.lines.length : Int) := by omega
                    have hq0 : (0 : Int) ≤ (u : Int) := by omega
                    rcases hlb : lineB s.data.toList with _ | _
                    · have N : Hid (goodT fs = false) := NO.out (NG.out (by rw [GF.out, List.any_eq_true.2 ⟨s, M.out, by unfold badL; rw [hlb]; rfl⟩]; rfl))
                      rw [hlb] at HLn
                      clear hlb T2 P1 M NO NG YES
                      go_wp2_with fail
                      refine (HLn.out _).mono ?_
                      rintro e w3 ⟨rfl, b3⟩
                      have B3 : Hid (Below w.heap.size w w3) := (Q2.out.trans (I2.out.mono Q2.out.size)).trans (b3.mono (Q2.out.trans (I2.out.mono Q2.out.size)).size)
                      clear b3
                      go_wp2_with fail
                      go_ret
                      exact ⟨ret_bool N.out.symm, B3.out⟩
                    · have T3 : Hid ((f.lines.take (u + 1)).any badL = false) := by rw [Hid, P1.out, List.any_append, T2.out]; simp [badL, hlb]
                      rw [hlb] at HLn
                      clear hlb T2 P1 M
                      go_wp2_with fail
                      refine (HLn.out _).mono ?_
                      rintro e w3 ⟨rfl, b3⟩
                      have B3 : Hid (Below wn.heap.size wn w3) := ext_trans I2.out b3
                      clear b3
                      go_wp2_with fail
                      go_roundw
                      case rel => exact ⟨u + 1, by omega, by go_num, T3, B3⟩
                      case measure => simp [intOf]; omega
                  · have hu2 : u = f.lines.length := by omega
                    subst hu2
                    have GG : Hid (goodF f = true) := by have h3 := T2.out; rw [List.take_of_length_le (Nat.le_refl _)] at h3; rw [Hid, GF.out, h3]; rfl
                    have N := Lib.hid (YES.out (OK.out GG.out))
                    clear T2 NO NG YES GG OK GF hul
                    have hbn : b < wn.heap.size := Nat.lt_of_lt_of_le hb Q2.out.size
                    have e0 : wr.cell? ⟨b, o + k * 3 + 2, none⟩ = some (.slice f.L f.lines.length f.d) := by rw [I2.out.cell (p := ⟨b, o + k * 3 + 2, none⟩) hbn]; exact E0.out
                    have B3 : Hid (Below w.heap.size w wr) := Q2.out.trans (I2.out.mono Q2.out.size)
                    go_wp2_with fail
                    go_roundw
                    case rel => exact ⟨k + 1, by omega, by go_num, N, B3⟩
                    case measure => simp [intOf]; omega
              · have d2 : decide ((60 : Int) < (f.lines.length : Int)) = true := decide_eq_true (by omega)
                have N := Lib.hid (NO.out (NG.out (goodF_no2 h2)))
                clear NO NG YES h1 h2
                go_wp2_with fail
                refine wp_region_quiet_lit (by kernel_rfl) (by kernel_rfl) ?_
                repeat (first | go_big_quiet_skip | go_big_quiet_step ((go_at_call 57; with_reducible exact quiet_ret (HN.out _))))
                refine wpQuiet_nil ?_
                rintro _ ⟨nq, rfl⟩
                go_wp2_with fail
                go_ret
                exact ⟨ret_bool N.out.symm, below_drewN Q.out nq⟩
            · have d1 : ((f.also.length : Int) != 0) = true := by simp; intro e; exact h1 (by rw [e]; rfl)
              have N := Lib.hid (NO.out (NG.out (goodF_no1 h1)))
              clear NO NG YES h1
              go_wp2_with fail
              refine wp_region_quiet_lit (by kernel_rfl) (by kernel_rfl) ?_
              repeat (first | go_big_quiet_skip | go_big_quiet_step ((go_at_call 57; with_reducible exact quiet_ret (HN.out _))))
              refine wpQuiet_nil ?_
              rintro _ ⟨nq, rfl⟩
              go_wp2_with fail
              go_ret
              exact ⟨ret_bool N.out.symm, below_drewN Q.out nq⟩
          · obtain ⟨j, hj⟩ : ∃ j, k = j + 1 := ⟨k - 1, by omega⟩
            have hkj : (k : Int) - 1 = (j : Int) := by omega
            have dk : decide (0 < k) = true := decide_eq_true (by omega)
            obtain ⟨b', o', hA', hb', P1⟩ := H.out.at_ (k := j) (by rw [HL.out]; omega)
            obtain ⟨rfl, rfl⟩ : b = b' ∧ o = o' := by simpa using hA'
            have Q2 : Hid (fs[j]? = some (fs[j]'(by rw [HL.out]; omega))) := List.getElem?_eq_getElem _
            generalize fs[j]'(by rw [HL.out]; omega) = pv at *
            have E2 : Hid (okAt fs k = (goodF f && lessB pv.name f.name)) := by
              subst hj
              rw [Hid, okAt_succ Q1.out Q2.out]
            have hjn : (j : Int) < (n : Int) := by omega
            have hj0 : (0 : Int) ≤ (j : Int) := by omega
            have P3 : FileAt wr b (o + j * 3) pv := fileAt_of (rangeAt_below P1 Q.out hb)
            have g0 := P3.c0
            clear Q1 Q2 hz hA' P1 P3
            have HJ := Lib.hid hj
            clear hj
            rcases hl : lessB pv.name f.name with _ | _
            · have N : Hid (goodT fs = false) := NO.out (by rw [E2.out, hl, Bool.and_false])
              have dl : Op.bytesLess pv.name.toList f.name.toList = false := hl
              clear NO NG YES E2 hl
              go_wp2_with fail
              refine wp_region_quiet_lit (by kernel_rfl) (by kernel_rfl) ?_
              repeat (first | go_big_quiet_skip | go_big_quiet_step ((go_at_call 57; with_reducible exact quiet_ret (HN.out _))))
              refine wpQuiet_nil ?_
              rintro _ ⟨nq, rfl⟩
              go_wp2_with fail
              go_ret
              exact ⟨ret_bool N.out.symm, below_drewN Q.out nq⟩
            · have OK : Hid (goodF f = true → okAt fs k = true) := fun h => by rw [E2.out, hl, h]; rfl
              have dl : Op.bytesLess pv.name.toList f.name.toList = true := hl
              clear E2 hl
              by_cases h1 : f.also.length = 0
              · have d1 : ((f.also.length : Int) != 0) = false := by simp [h1]
                by_cases h2 : f.lines.length ≤ 60
                · have d2 : decide ((60 : Int) < (f.lines.length : Int)) = false := decide_eq_false (by omega)
                  have GF := Lib.hid (goodF_parts nb.out h1 h2)
                  have hl60 := h2
                  clear h1 h2
                  go_wp2_with fail
                  refine wp_region_quiet_lit (by kernel_rfl) (by kernel_rfl) ?_
                  repeat (first | go_big_quiet_skip | go_big_quiet_step ((go_at_call 57; with_reducible exact quiet_ret (HN.out _))))
                  refine wpQuiet_nil ?_
                  rintro _ ⟨nq, rfl⟩
                  go_wp2_with fail
                  have Q2 : Hid (Below w.heap.size w (wr.drewN nq)) := below_drewN Q.out nq
                  have E0 : Hid ((wr.drewN nq).cell? ⟨b, o + k * 3 + 2, none⟩ = some (.slice f.L f.lines.length f.d)) := c2
                  clear c0 c1 c2 Q
                  generalize hwn : wr.drewN nq = wn at *
                  clear hwn
                  go_loopw [4] (fun i wi => ∃ q : Nat, q ≤ f.lines.length ∧ i = .int .i64 q ∧ Hid ((f.lines.take q).any badL = false) ∧ Hid (Below wn.heap.size wn wi)) (fun i _ => f.lines.length - (intOf i).toNat)
                  case atStart => exact ⟨0, by omega, rfl, by simp [Hid], Below.refl _ _⟩
                  case round =>
                    obtain ⟨u, hu, rfl, T2, I2⟩ := hrel
                    by_cases hul : u < f.lines.length
                    · have hbn : b < wn.heap.size := Nat.lt_of_lt_of_le hb Q2.out.size
                      have e0 : wr.cell? ⟨b, o + k * 3 + 2, none⟩ = some (.slice f.L f.lines.length f.d) := by rw [I2.out.cell (p := ⟨b, o + k * 3 + 2, none⟩) hbn]; exact E0.out
                      obtain ⟨b2, o2, hA2, hb2, L1⟩ := strs_at G1.out.sl rfl hul
                      rw [hA2] at e0
                      have P1 : Hid (f.lines.take (u + 1) = f.lines.take u ++ [f.lines[u]'hul]) := List.take_succ_eq_append_getElem _
                      have M := Lib.hid (List.getElem_mem hul)
                      generalize f.lines[u]'hul = s at *
                      have e1 : wr.cell? ⟨b2, o2 + u, none⟩ = some (.string s) := by rw [(Q2.out.trans (I2.out.mono Q2.out.size)).cell (p := ⟨b2, o2 + u, none⟩) hb2]; exact L1
                      have HLn := Lib.hid (fun W => rline_any s W (G1.out.zl s M.out))
                      clear hA2 L1
                      have hqk : (u : Int) < (f.lines.length : Int) := by omega
                      have hq0 : (0 : Int) ≤ (u : Int) := by omega
                      rcases hlb : lineB s.data.toList with _ | _
                      · have N : Hid (goodT fs = false) := NO.out (NG.out (by rw [GF.out, List.any_eq_true.2 ⟨s, M.out, by unfold badL; rw [hlb]; rfl⟩]; rfl))
                        rw [hlb] at HLn
                        clear hlb T2 P1 M NO NG YES
                        go_wp2_with fail
                        refine (HLn.out _).mono ?_
                        rintro e w3 ⟨rfl, b3⟩
                        have B3 : Hid (Below w.heap.size w w3) := (Q2.out.trans (I2.out.mono Q2.out.size)).trans (b3.mono (Q2.out.trans (I2.out.mono Q2.out.size)).size)
                        clear b3
                        go_wp2_with fail
                        go_ret
                        exact ⟨ret_bool N.out.symm, B3.out⟩
                      · have T3 : Hid ((f.lines.take (u + 1)).any badL = false) := by rw [Hid, P1.out, List.any_append, T2.out]; simp [badL, hlb]
                        rw [hlb] at HLn
                        clear hlb T2 P1 M
                        go_wp2_with fail
                        refine (HLn.out _).mono ?_
                        rintro e w3 ⟨rfl, b3⟩
                        have B3 : Hid (Below wn.heap.size wn w3) := ext_trans I2.out b3
                        clear b3
                        go_wp2_with fail
                        go_roundw
                        case rel => exact ⟨u + 1, by omega, by go_num, T3, B3⟩
                        case measure => simp [intOf]; omega
                    · have hu2 : u = f.lines.length := by omega
                      subst hu2
                      have GG : Hid (goodF f = true) := by have h3 := T2.out; rw [List.take_of_length_le (Nat.le_refl _)] at h3; rw [Hid, GF.out, h3]; rfl
                      have N := Lib.hid (YES.out (OK.out GG.out))
                      clear T2 NO NG YES GG OK GF hul
                      have hbn : b < wn.heap.size := Nat.lt_of_lt_of_le hb Q2.out.size
                      have e0 : wr.cell? ⟨b, o + k * 3 + 2, none⟩ = some (.slice f.L f.lines.length f.d) := by rw [I2.out.cell (p := ⟨b, o + k * 3 + 2, none⟩) hbn]; exact E0.out
                      have B3 : Hid (Below w.heap.size w wr) := Q2.out.trans (I2.out.mono Q2.out.size)
                      go_wp2_with fail
                      go_roundw
                      case rel => exact ⟨k + 1, by omega, by go_num, N, B3⟩
                      case measure => simp [intOf]; omega
                · have d2 : decide ((60 : Int) < (f.lines.length : Int)) = true := decide_eq_true (by omega)
                  have N := Lib.hid (NO.out (NG.out (goodF_no2 h2)))
                  clear NO NG YES h1 h2
                  go_wp2_with fail
                  refine wp_region_quiet_lit (by kernel_rfl) (by kernel_rfl) ?_
                  repeat (first | go_big_quiet_skip | go_big_quiet_step ((go_at_call 57; with_reducible exact quiet_ret (HN.out _))))
                  refine wpQuiet_nil ?_
                  rintro _ ⟨nq, rfl⟩
                  go_wp2_with fail
                  go_ret
                  exact ⟨ret_bool N.out.symm, below_drewN Q.out nq⟩
              · have d1 : ((f.also.length : Int) != 0) = true := by simp; intro e; exact h1 (by rw [e]; rfl)
                have N := Lib.hid (NO.out (NG.out (goodF_no1 h1)))
                clear NO NG YES h1
                go_wp2_with fail
                refine wp_region_quiet_lit (by kernel_rfl) (by kernel_rfl) ?_
                repeat (first | go_big_quiet_skip | go_big_quiet_step ((go_at_call 57; with_reducible exact quiet_ret (HN.out _))))
                refine wpQuiet_nil ?_
                rintro _ ⟨nq, rfl⟩
                go_wp2_with fail
                go_ret
                exact ⟨ret_bool N.out.symm, below_drewN Q.out nq⟩
      · have hk' : k = n := by omega
        subst hk'
        have N : Hid (goodT fs = true) := by rw [Hid, goodT_yes fun j hj => T.out j (by have := HL.out; omega), HL.out]; exact decide_eq_true h16
        clear T
        go_wp2
        go_ret
        exact ⟨ret_bool N.out.symm, Q.out⟩
  · have N : Hid (goodT fs = false) := by unfold goodT; rw [Hid, hn, decide_eq_false h16]; rfl
    have hd : (16 : Int) < (n : Int) := by omega
    clear h hn
    go_enter Try.func42, Try.ntmps42
    go_wp2
    go_ret
    exact ⟨ret_bool N.out.symm, Below.refl _ _⟩
end Go.Proofs.Ytceapefjdiphpaa
