/- WordParts: a name is a line, a mark stays one, what two names make is one if it is not too long, a line feed makes no line. No conditions. -/
import Derived.Test.YtlebhalaodmkhaaWordb
import Derived.Test.YtlebhalaodmkhaaLift
namespace Go.Proofs.Ytlebhalaodmkhaa
open Go.ChangeShapes Go.WideShapes Go.ChangeAt Go.RowKit

theorem markB_append (l r : List UInt8) (h : markB l = true) : markB (l ++ r) = true := by
  by_cases h7 : 7 ≤ l.length
  · obtain ⟨a, b, c, d, e, f, g, q, rfl⟩ := drop7 l h7
    exact h
  · rw [markB_short l (by omega)] at h; cases h
theorem markB_head (l : List UInt8) (h : markB l = true) : ∃ a r, l = a :: r ∧ (a = 60 ∨ a = 61 ∨ a = 62 ∨ a = 124) := by
  by_cases h7 : 7 ≤ l.length
  · obtain ⟨a, b, c, d, e, f, g, q, rfl⟩ := drop7 l h7
    simp only [markB, Bool.and_eq_true, Bool.or_eq_true, beq_iff_eq] at h
    exact ⟨a, _, rfl, by rcases h.1 with ((h | h) | h) | h <;> simp [h]⟩
  · rw [markB_short l (by omega)] at h; cases h
theorem nameB_mark (l : List UInt8) (h : nameB l = true) : markB l = false := by
  rw [Bool.eq_false_iff]; intro hm
  obtain ⟨a, r, rfl, ha⟩ := markB_head l hm
  unfold nameB at h
  simp only [List.all_cons, Bool.and_eq_true] at h
  rcases ha with rfl | rfl | rfl | rfl <;> exact absurd h.1.1 (by decide)
theorem nameB_line (l : List UInt8) (h : nameB l = true) : lineB l = true := by
  unfold lineB
  rw [nameB_mark l h]
  unfold nameB at h
  simp only [Bool.and_eq_true, List.all_eq_true, decide_eq_true_eq] at h
  have h10 : l.contains 10 = false := by
    rw [Bool.eq_false_iff]; intro hc
    exact absurd (h.1 10 (List.contains_iff_mem.1 hc)) (by decide)
  rw [h10, decide_eq_true (by omega)]; rfl
theorem lineB_mark (l : List UInt8) (h : markB l = true) : lineB l = false := by unfold lineB; rw [h]; simp
theorem lineB_feed (l r : List UInt8) : lineB (l ++ 10 :: r) = false := by
  unfold lineB
  have : (l ++ 10 :: r).contains 10 = true := List.contains_iff_mem.2 (by simp)
  rw [this]; rfl
theorem nameB_append (l r : List UInt8) (hl : nameB l = true) (hr : nameB r = true) : nameB (l ++ r) = decide (((l.length : Int)) + (r.length : Int) ≤ 16) := by
  unfold nameB at *
  simp only [Bool.and_eq_true, decide_eq_true_eq] at hl hr
  rw [List.all_append, hl.1, hr.1, Bool.eq_iff_iff]; simp; omega


set_option maxHeartbeats 1000000 in
theorem wordParts_walk (s : ByteArray) (hs : s.size ≤ maxLen) (t : ByteArray) (ht : t.size ≤ maxLen) (w : World) : Calls Try.prog 4 #[.string s, .string t] w (RetB w (.bool true)) := by
  by_cases h2 : s.size ≤ 200
  · by_cases h3 : t.size ≤ 200
    · have hd : ¬ (200 : Int) < (s.size : Int) := by omega
      have hd' : ¬ (200 : Int) < (t.size : Int) := by omega
      have hst : (s ++ t).size ≤ maxLen := by rw [ByteArray.size_append]; unfold maxLen; omega
      have hsn : ((s ++ ⟨#[10]⟩) ++ t).size ≤ maxLen := by rw [ByteArray.size_append, ByteArray.size_append, show (ByteArray.mk #[10]).size = 1 from rfl]; unfold maxLen; omega
      have hf : lineB (s.data.toList ++ 10 :: t.data.toList) = false := lineB_feed _ _
      have HA : Hid (nameB s.data.toList = true → nameB t.data.toList = true → nameB (s.data.toList ++ t.data.toList) = decide ((s.size : Int) + (t.size : Int) ≤ 16)) := by
        intro h1 h2; rw [nameB_append _ _ h1 h2]; rfl
      have HL : Hid (nameB s.data.toList = true → lineB s.data.toList = true) := nameB_line _
      have HM : Hid (nameB s.data.toList = true → markB s.data.toList = false) := nameB_mark _
      have HK : Hid (markB s.data.toList = true → lineB s.data.toList = false) := lineB_mark _
      have HT : Hid (markB s.data.toList = true → markB (s.data.toList ++ t.data.toList) = true) := by intro h; exact markB_append _ _ h
      by_cases hn : nameB s.data.toList = true
      · have hl := HL.out hn
        have hm := HM.out hn
        by_cases hn' : nameB t.data.toList = true
        · by_cases hle : (s.size : Int) + (t.size : Int) ≤ 16
          · have ha : nameB (s.data.toList ++ t.data.toList) = true := by rw [HA.out hn hn']; exact decide_eq_true hle
            go_enter Try.func4, Try.ntmps4
            go_wp2_with (first
            | (go_at_call 12; refine (name_any _ _ (by assumption)).mono ?_; rintro e _ ⟨rfl, hb⟩)
            | (go_at_call 14; refine (mark_any _ _ (by assumption)).mono ?_; rintro e _ ⟨rfl, hb⟩)
            | (go_at_call 16; refine (line_any _ _ (by assumption)).mono ?_; rintro e _ ⟨rfl, hb⟩)
            | (go_at_call 11; refine (works14 _).mono ?_; rintro e _ ⟨rfl, hb⟩))
            all_goals
              go_ret
              exact ⟨ret_bool (by simp [*]), by repeat (first | exact Below.refl _ _ | assumption | refine ext_trans ?_ (by assumption))⟩
          · have ha : nameB (s.data.toList ++ t.data.toList) = false := by rw [HA.out hn hn']; exact decide_eq_false hle
            have hle' : ¬ (s.size : Int) + (t.size : Int) ≤ 16 := hle
            go_enter Try.func4, Try.ntmps4
            go_wp2_with (first
            | (go_at_call 12; refine (name_any _ _ (by assumption)).mono ?_; rintro e _ ⟨rfl, hb⟩)
            | (go_at_call 14; refine (mark_any _ _ (by assumption)).mono ?_; rintro e _ ⟨rfl, hb⟩)
            | (go_at_call 16; refine (line_any _ _ (by assumption)).mono ?_; rintro e _ ⟨rfl, hb⟩)
            | (go_at_call 11; refine (works14 _).mono ?_; rintro e _ ⟨rfl, hb⟩))
            all_goals
              go_ret
              exact ⟨ret_bool (by simp [*]), by repeat (first | exact Below.refl _ _ | assumption | refine ext_trans ?_ (by assumption))⟩
        · have hn'' : nameB t.data.toList = false := by simpa using hn'
          clear hn'
          go_enter Try.func4, Try.ntmps4
          go_wp2_with (first
          | (go_at_call 12; refine (name_any _ _ (by assumption)).mono ?_; rintro e _ ⟨rfl, hb⟩)
          | (go_at_call 14; refine (mark_any _ _ (by assumption)).mono ?_; rintro e _ ⟨rfl, hb⟩)
          | (go_at_call 16; refine (line_any _ _ (by assumption)).mono ?_; rintro e _ ⟨rfl, hb⟩)
          | (go_at_call 11; refine (works14 _).mono ?_; rintro e _ ⟨rfl, hb⟩))
          all_goals
            go_ret
            exact ⟨ret_bool (by simp [*]), by repeat (first | exact Below.refl _ _ | assumption | refine ext_trans ?_ (by assumption))⟩
      · have hn0 : nameB s.data.toList = false := by simpa using hn
        clear hn
        by_cases hm : markB s.data.toList = true
        · have hl := HK.out hm
          have hmt := HT.out hm
          go_enter Try.func4, Try.ntmps4
          go_wp2_with (first
          | (go_at_call 12; refine (name_any _ _ (by assumption)).mono ?_; rintro e _ ⟨rfl, hb⟩)
          | (go_at_call 14; refine (mark_any _ _ (by assumption)).mono ?_; rintro e _ ⟨rfl, hb⟩)
          | (go_at_call 16; refine (line_any _ _ (by assumption)).mono ?_; rintro e _ ⟨rfl, hb⟩)
          | (go_at_call 11; refine (works14 _).mono ?_; rintro e _ ⟨rfl, hb⟩))
          all_goals
            go_ret
            exact ⟨ret_bool (by simp [*]), by repeat (first | exact Below.refl _ _ | assumption | refine ext_trans ?_ (by assumption))⟩
        · have hm0 : markB s.data.toList = false := by simpa using hm
          clear hm
          go_enter Try.func4, Try.ntmps4
          go_wp2_with (first
          | (go_at_call 12; refine (name_any _ _ (by assumption)).mono ?_; rintro e _ ⟨rfl, hb⟩)
          | (go_at_call 14; refine (mark_any _ _ (by assumption)).mono ?_; rintro e _ ⟨rfl, hb⟩)
          | (go_at_call 16; refine (line_any _ _ (by assumption)).mono ?_; rintro e _ ⟨rfl, hb⟩)
          | (go_at_call 11; refine (works14 _).mono ?_; rintro e _ ⟨rfl, hb⟩))
          all_goals
            go_ret
            exact ⟨ret_bool (by simp [*]), by repeat (first | exact Below.refl _ _ | assumption | refine ext_trans ?_ (by assumption))⟩
    · have hd : ¬ (200 : Int) < (s.size : Int) := by omega
      have hd' : (200 : Int) < (t.size : Int) := by omega
      go_enter Try.func4, Try.ntmps4
      go_wp2_with (first
          | (go_at_call 12; refine (name_any _ _ (by assumption)).mono ?_; rintro e _ ⟨rfl, hb⟩)
          | (go_at_call 14; refine (mark_any _ _ (by assumption)).mono ?_; rintro e _ ⟨rfl, hb⟩)
          | (go_at_call 16; refine (line_any _ _ (by assumption)).mono ?_; rintro e _ ⟨rfl, hb⟩)
          | (go_at_call 11; refine (works14 _).mono ?_; rintro e _ ⟨rfl, hb⟩))
      all_goals
        go_ret
        exact ⟨ret_bool (by simp [*]), by repeat (first | exact Below.refl _ _ | assumption | refine ext_trans ?_ (by assumption))⟩
  · have hd : (200 : Int) < (s.size : Int) := by omega
    go_enter Try.func4, Try.ntmps4
    go_wp2_with (first
          | (go_at_call 12; refine (name_any _ _ (by assumption)).mono ?_; rintro e _ ⟨rfl, hb⟩)
          | (go_at_call 14; refine (mark_any _ _ (by assumption)).mono ?_; rintro e _ ⟨rfl, hb⟩)
          | (go_at_call 16; refine (line_any _ _ (by assumption)).mono ?_; rintro e _ ⟨rfl, hb⟩)
          | (go_at_call 11; refine (works14 _).mono ?_; rintro e _ ⟨rfl, hb⟩))
    all_goals
      go_ret
      exact ⟨ret_bool (by simp [*]), by repeat (first | exact Below.refl _ _ | assumption | refine ext_trans ?_ (by assumption))⟩
set_option maxRecDepth 100000 in
theorem wordParts_lifted (os : Os) (started : os.Started) (H : Type) (enc : TypeId × Value → H) :
    ReturnsInHanded {} Try.checked os 4 .any (Rows.wordPartsSpec.pre6 enc Try.prog Try.f4 Rows.wordPartsRow.domain false) (Rows.wordPartsSpec.post enc Try.prog Try.f4 false true false false) := by
  refine returnsInHanded_of_change (C := Try.checked) own started (by kernel_rfl) Try.func4
    (ChangeSpec.witness6 (enc := enc) (C := Try.checked) false ⟨#[], #[.string ByteArray.empty, .string ByteArray.empty], []⟩ 8 (by kernel_rfl) (by kernel_rfl) (by kernel_rfl) (by kernel_rfl)) ?_
  intro W base args ds gs before hval0 hW _ _
  have hval : ∀ (j : Nat) t v, Try.f4.params[j]? = some t → args[j]? = some v → Value.okWide Try.prog W .any base t v := hval0
  have hW' := hW
  obtain ⟨p, q, hA0, hV, hps, hfz, hnd⟩ := hW
  have hA : DataW.TrodAll enc Try.prog W 0 (fun _ => true) true Try.f4.params.toList args.toList ds p := hA0
  rw [Try.params4] at hA hval
  obtain ⟨v0, vs0, d0, ds0, p0, q0, hargs, rfl, hp0, h0, r0⟩ := trodAll_cons hA
  obtain ⟨v1, vs1, d1, ds1, p1, q1, rfl, rfl, hp1, h1, r1⟩ := trodAll_cons r0
  obtain ⟨rfl, rfl, _⟩ := trodAll_nil r1
  obtain rfl : args = #[v0, v1] := by cases args; simp_all
  obtain ⟨rfl, _⟩ := trodVars_none hV
  obtain ⟨a0, rfl, rfl, rfl, w0⟩ := Go.ChangeMaps.open_string Try.underlying9 (hval 0 9 v0 rfl rfl) h0
  obtain ⟨a1, rfl, rfl, rfl, w1⟩ := Go.ChangeMaps.open_string Try.underlying9 (hval 1 9 v1 rfl rfl) h1
  refine (wordParts_walk a0 w0 a1 w1 W).mono fun e W' ⟨he, bel⟩ => ?_
  subst he
  exact ⟨_, rfl, law_post (tb := 4) Try.underlying4 rfl (typesOk_of (by kernel_rfl)) hW' rfl rfl bel⟩
theorem wordParts_holds : Rows.WordPartsSaid :=
  OpenClaim.holds_of_wide 4 Try.f4 rfl rfl rfl rfl rfl rfl rfl ⟨rfl, rfl, rfl, rfl, rfl⟩ rfl rfl rfl rfl rfl (by kernel_rfl) Try.func4 (by kernel_rfl)
    (of_decide_eq_true (by kernel_rfl)) (by unfold Func.isWrapper; first | (rw [if_pos (by decide +kernel)]; kernel_rfl) | (rw [if_neg (by decide +kernel)]; exact ⟨rfl, rfl⟩))
    (fun os started H enc _ => wordParts_lifted os started H enc)
end Go.Proofs.Ytlebhalaodmkhaa
