/- IN A TREE THAT MAY BE RECORDED each file stands where its name is found, and nothing else does; whatever is written into a copy, the tree stays. No condition. -/
import Derived.Test.YtceapefjdiphpaaTreeq
import Derived.Test.YtceapefjdiphpaaLift
namespace Go.Proofs.Ytceapefjdiphpaa
open Go.ChangeShapes Go.WideShapes Go.RowKit Go.Deep

set_option maxRecDepth 100000 in
set_option maxHeartbeats 8000000 in
theorem treeFinds_main (fs : List FileV) (s : ByteArray) (w : World) (A : Option Addr) (n c : Nat) (hn : fs.length = n) (hc : n ≤ maxLen) (h : TreeOk w w.heap.size A fs) :
    Calls Try.prog 11 #[.slice A n c, .string s] w (RetB w (.bool true)) := by
  have HL := Lib.hid hn
  have H := Lib.hid h
  have F1 := Lib.hid (few_any fs w A n c hn hc h)
  clear h hn
  go_enter Try.func11, Try.ntmps11
  go_wp2_with fail
  refine F1.out.mono ?_
  rintro e w1 ⟨rfl, h1⟩
  rcases h1 with ⟨P1, rfl⟩ | ⟨_, rfl⟩
  · have P1 := Lib.hid P1
    have hm : n ≤ 40 := by rw [← HL.out]; exact P1.out.len
    go_wp2_with fail
    refine (goodT_any fs w A n c HL.out hm H.out).mono ?_
    rintro e w1 ⟨rfl, b1⟩
    have B1 := Lib.hid b1
    clear b1 F1
    by_cases hg : goodT fs = true
    · rw [hg]
      have HG := Lib.hid hg
      clear hg
      go_wp2_with fail
      go_loopw [5] (fun i wr => ∃ k : Nat, k ≤ n ∧ i = .int .i64 k ∧ Hid (Below w.heap.size w wr)) (fun i _ => n - (intOf i).toNat)
      case atStart => exact ⟨0, by omega, rfl, B1.out⟩
      case round =>
        clear B1
        obtain ⟨k, hk, rfl, B⟩ := hrel
        by_cases hlt : k < n
        · have hkl : k < fs.length := by rw [HL.out]; exact hlt
          obtain ⟨b, o, rfl, hb, F1⟩ := H.out.at_ (k := k) hkl
          have F3 := fileAt_of (rangeAt_below F1 B.out hb)
          have T2 := Lib.hid (H.out.up B.out)
          have N := Lib.hid (goodT_find HG.out hkl)
          generalize fs[k]'hkl = f at *
          obtain ⟨c0, c1, c2⟩ := F3
          clear F1 hkl
          have hlk : (k : Int) < (n : Int) := by omega
          have hk0 : (0 : Int) ≤ (k : Int) := by omega
          go_wp2_with fail
          refine (find_any fs f.name wr _ n c HL.out hm T2.out).mono ?_
          rintro e w2 ⟨rfl, b2⟩
          rw [N.out]
          have B2 := Lib.hid (B.out.trans (b2.mono B.out.size))
          clear b2 B T2 c0 c1 c2 N
          go_wp2_with fail
          go_roundw
          case rel => exact ⟨k + 1, by omega, by go_num, B2.out⟩
          case measure => simp [intOf]; omega
        · have hk' : k = n := by omega
          subst hk'
          have T2 := Lib.hid (H.out.up B.out)
          go_wp2_with fail
          refine (text_any fs wr _ k c HL.out P1.out T2.out).mono ?_
          rintro e w2 ⟨rfl, b2⟩
          have B2 := Lib.hid (B.out.trans (b2.mono B.out.size))
          have T3 := Lib.hid (T2.out.up b2)
          clear b2 B T2
          go_wp2_with fail
          refine (copy_any fs w2 _ k c HL.out P1.out T3.out).mono ?_
          rintro e w3 ⟨v, gs, rfl, hc, b3⟩
          have HC := Lib.hid hc
          have B3 := Lib.hid (B2.out.trans (b3.mono B2.out.size))
          clear b3 T3 hc hlt hk
          rcases HC.out.own.2 with ⟨rfl, hk0⟩ | ⟨g, cap, cur, rfl, hg1, _, hg3, hg4, _⟩
          · subst hk0
            go_wp2_with fail
            go_loopw [40] (fun i wr => i = .int .i64 0 ∧ Hid (Below w.heap.size w wr)) (fun _ _ => 0)
            case atStart => exact ⟨rfl, B3.out⟩
            case round =>
              clear B3
              obtain ⟨rfl, B⟩ := hrel
              go_wp2_with fail
              refine (text_any fs wr _ 0 c HL.out P1.out (H.out.up B.out)).mono ?_
              rintro e w5 ⟨rfl, b5⟩
              have B5 := Lib.hid (B.out.trans (b5.mono B.out.size))
              clear b5 B
              go_wp2_with fail
              refine (find_any fs _ w5 _ 0 c HL.out hm (H.out.up B5.out)).mono ?_
              rintro e w6 ⟨rfl, b6⟩
              rw [goodT_noname HG.out]
              have B6 := Lib.hid (B5.out.trans (b6.mono B5.out.size))
              clear b6 B5
              go_wp2_with fail
              refine (works15 _).mono ?_
              rintro e w7 ⟨rfl, b7⟩
              have B7 := Lib.hid (B6.out.trans (b7.mono B6.out.size))
              clear b7 B6
              go_wp2
              go_ret
              exact ⟨rfl, B7.out⟩

          · have GB := Lib.hid (Nat.le_trans B2.out.size hg1)
            unfold maxLen at hg4
            have GL := Lib.hid HC.out.len
            have RF : Hid (RowF w3 w.heap.size g cap k gs) := rowF_of HC.out.len (own_mono HC.out.own B2.out.size)
            have RS : Hid (∀ f ∈ gs, RowS w3 w.heap.size f) := fun f hf => ⟨_, own_mono (HC.out.files f hf).l B2.out.size⟩
            have LC : Hid (∀ f ∈ gs, f.lines.length ≤ 9223372036854775807) := fun f hf => by have := own_cap (HC.out.files f hf).l; unfold maxLen at this; rw [show (2 : Nat) ^ 63 - 1 = 9223372036854775807 by decide] at this; omega
            clear HC hg1 B2
            go_wp2_with fail
            go_loopw [40] (fun i wr => ∃ q : Nat, q ≤ k ∧ i = .int .i64 q ∧ Hid (RowF wr w.heap.size g cap k gs) ∧ Hid (∀ f ∈ gs, RowS wr w.heap.size f) ∧ Hid (Below w.heap.size w wr)) (fun i _ => k - (intOf i).toNat)
            case atStart => exact ⟨0, by omega, rfl, RF.out, RS.out, B3.out⟩
            case round =>
              clear RF RS B3
              obtain ⟨q, hq, rfl, RF, RS, B⟩ := hrel
              by_cases hlt : q < k
              · have hql : q < gs.length := by rw [GL.out]; exact hlt
                obtain ⟨⟨u0, c0⟩, c2, fz⟩ := RF.out.at_ GL.out hql
                have hmem := Lib.hid (List.getElem_mem hql)
                have HF : Hid (∀ h', (gs[q]'h') = gs[q]'hql) := fun _ => rfl
                generalize gs[q]'hql = f at *
                have hll := LC.out f hmem.out
                have hlk : (q : Int) < (k : Int) := by omega
                have hq0 : (0 : Int) ≤ (q : Int) := by omega
                have f0 := fz (q * 3)
                have RF1 := Lib.hid (RF.out.name (k := q) (.string s))
                have RS1 : Hid (∀ f' ∈ gs, RowS (wr.setCell ⟨g, q * 3, none⟩ (.string s)) w.heap.size f') := fun f' hf' => by
                  obtain ⟨xs, hx, _⟩ := RF.out
                  exact (RS.out f' hf').far hx (by decide)
                have B1 : Hid (Below w.heap.size w (wr.setCell ⟨g, q * 3, none⟩ (.string s))) := B.out.setCell (p := ⟨g, q * 3, none⟩) GB.out _
                have c3 : (wr.setCell ⟨g, q * 3, none⟩ (.string s)).cell? ⟨g, q * 3 + 2, none⟩ = some (.slice f.L f.lines.length f.d) := by
                  have h1 := (RF1.out.at_ GL.out hql).2.1
                  rw [HF.out] at h1; exact h1
                clear c2 fz RF RS B
                go_wp2_with fail
                generalize (wr.setCell ⟨g, q * 3, none⟩ (.string s)) = wx at *
                clear c0 c3 f0
                go_loopw [54] (fun i wy => ∃ p : Nat, p ≤ f.lines.length ∧ i = .int .i64 p ∧ Hid (RowF wy w.heap.size g cap k gs) ∧ Hid (∀ f ∈ gs, RowS wy w.heap.size f) ∧ Hid (Below w.heap.size w wy)) (fun i _ => f.lines.length - (intOf i).toNat)
                case atStart => exact ⟨0, by omega, rfl, RF1.out, RS1.out, B1.out⟩
                case round =>
                  clear RF1 RS1 B1
                  obtain ⟨p, hp, rfl, RF, RS, B⟩ := hrel
                  by_cases hpl : p < f.lines.length
                  · obtain ⟨lb, ys, hL, hlb, ho, ⟨u1, c1⟩, f1⟩ := (RS.out f hmem.out).at_ hpl
                    obtain ⟨_, c2, fz⟩ := RF.out.at_ GL.out hql
                    rw [HF.out, hL] at c2
                    have HO := Lib.hid ho
                    have RF2 := Lib.hid (RF.out.far (j := p) (u := .string s) ho (by decide))
                    have RS2 : Hid (∀ f' ∈ gs, RowS (wr.setCell ⟨lb, p, none⟩ (.string s)) w.heap.size f') := fun f' hf' => (RS.out f' hf').set_ ho
                    have B2 : Hid (Below w.heap.size w (wr.setCell ⟨lb, p, none⟩ (.string s))) := B.out.setCell (p := ⟨lb, p, none⟩) hlb _
                    have hpk : (p : Int) < (f.lines.length : Int) := by omega
                    have hp0 : (0 : Int) ≤ (p : Int) := by omega
                    clear fz RF RS B HO ho
                    go_wp2_with fail
                    go_roundw
                    case rel => exact ⟨p + 1, by omega, by go_num, RF2.out, RS2.out, B2.out⟩
                    case measure => simp [intOf]; omega
                  · have hpk : ¬ (p : Int) < (f.lines.length : Int) := by omega
                    go_wp2_with fail
                    go_roundw
                    case rel => exact ⟨q + 1, by omega, by go_num, RF.out, RS.out, B.out⟩
                    case measure => simp [intOf]; omega
              · have hk' : q = k := by omega
                subst hk'
                clear hlt hq
                go_wp2_with fail
                refine (text_any fs wr _ q c HL.out P1.out (H.out.up B.out)).mono ?_
                rintro e w5 ⟨rfl, b5⟩
                have B5 := Lib.hid (B.out.trans (b5.mono B.out.size))
                clear b5 B
                go_wp2_with fail
                refine (find_any fs _ w5 _ q c HL.out hm (H.out.up B5.out)).mono ?_
                rintro e w6 ⟨rfl, b6⟩
                rw [goodT_noname HG.out]
                have B6 := Lib.hid (B5.out.trans (b6.mono B5.out.size))
                clear b6 B5
                go_wp2_with fail
                refine (works15 _).mono ?_
                rintro e w7 ⟨rfl, b7⟩
                have B7 := Lib.hid (B6.out.trans (b7.mono B6.out.size))
                clear b7 B6
                go_wp2
                go_ret
                exact ⟨rfl, B7.out⟩

    · have hg : goodT fs = false := by simpa using hg
      rw [hg]
      go_wp2_with fail
      refine (works15 _).mono ?_
      rintro e w2 ⟨rfl, b2⟩
      have B2 := Lib.hid (B1.out.trans (b2.mono B1.out.size))
      clear b2
      go_wp2
      go_ret
      exact ⟨rfl, B2.out⟩
  · go_wp2_with fail
    refine (works15 _).mono ?_
    rintro e w2 ⟨rfl, b2⟩
    have B2 := Lib.hid b2
    clear b2
    go_wp2
    go_ret
    exact ⟨rfl, B2.out⟩

theorem treeFinds_walk (w : World) (A : Option Addr) (n c : Nat) (fs : List FileV) (hn : fs.length = n) (hc : n ≤ maxLen) (h : TreeOk w w.heap.size A fs) (s : ByteArray) (_ : s.size ≤ maxLen) :
    Calls Try.prog 11 #[.slice A n c, .string s] w (RetB w (.bool true)) := treeFinds_main fs s w A n c hn hc h

set_option maxRecDepth 100000 in
theorem treeFinds_lifted (os : Os) (started : os.Started) (H : Type) (enc : TypeId × Value → H) :
    ReturnsInHanded {} Try.checked os 11 .any (Rows.treeFindsSpec.pre6 enc Try.prog Try.f11 Rows.treeFindsRow.domain false) (Rows.treeFindsSpec.post enc Try.prog Try.f11 false true false false) := by
  refine returnsInHanded_of_change (C := Try.checked) own started (by kernel_rfl) Try.func11
    (ChangeSpec.witness6 (enc := enc) (C := Try.checked) false ⟨#[], #[.slice none 0 0, .string ByteArray.empty], []⟩ 8 (by kernel_rfl) (by kernel_rfl) (by kernel_rfl) (by kernel_rfl)) ?_
  intro W base args ds gs before hval0 hW _ _
  have hval : ∀ (j : Nat) t v, Try.f11.params[j]? = some t → args[j]? = some v → Value.okWide Try.prog W .any base t v := hval0
  have hW' := hW
  obtain ⟨p, q, hA0, hV, hps, hfz, hnd⟩ := hW
  have hA : DataW.TrodAll enc Try.prog W 0 (fun _ => true) true Try.f11.params.toList args.toList ds p := hA0
  rw [Try.params11] at hA hval
  obtain ⟨v0, vs0, d0, ds0, p0, q0, hargs, rfl, hp0, h0, r0⟩ := trodAll_cons hA
  obtain ⟨v1, vs1, d1, ds1, p1, q1, rfl, rfl, hp1, h1, r1⟩ := trodAll_cons r0
  obtain ⟨rfl, rfl, _⟩ := trodAll_nil r1
  obtain rfl : args = #[v0, v1] := by cases args; simp_all
  obtain ⟨rfl, _⟩ := trodVars_none hV
  obtain ⟨a0, n0, c0, rows0, rfl, hle0, hcm0, hrl0, hro0, hrs0⟩ := open_nest_slice (es := [.str, .sl [.str], .sl [.str]]) Try.underlying58 (by kernel_rfl) (hval 0 58 v0 rfl rfl) h0
  obtain ⟨fs0, hfl0, hft0⟩ := tree_of hrl0 hro0 hrs0
  obtain ⟨a1, rfl, rfl, rfl, w1⟩ := Go.ChangeMaps.open_string Try.underlying9 (hval 1 9 v1 rfl rfl) h1
  refine (treeFinds_walk W a0 n0 c0 fs0 hfl0 (Nat.le_trans hle0 hcm0) hft0 a1 w1).mono fun e W' ⟨he, bel⟩ => ?_
  subst he
  exact ⟨_, rfl, law_post (tb := 4) Try.underlying4 rfl (typesOk_of (by kernel_rfl)) hW' rfl rfl bel⟩
theorem treeFinds_holds : Rows.TreeFindsSaid :=
  OpenClaim.holds_of_wide 11 Try.f11 rfl rfl rfl rfl rfl rfl rfl ⟨rfl, rfl, rfl, rfl, rfl⟩ rfl rfl rfl rfl rfl (by kernel_rfl) Try.func11 (by kernel_rfl)
    (of_decide_eq_true (by kernel_rfl)) (by unfold Func.isWrapper; first | (rw [if_pos (by decide +kernel)]; kernel_rfl) | (rw [if_neg (by decide +kernel)]; exact ⟨rfl, rfl⟩))
    (fun os started H enc _ => treeFinds_lifted os started H enc)
end Go.Proofs.Ytceapefjdiphpaa
