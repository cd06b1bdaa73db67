/- Trees: whether a tree may be recorded. -/
import Derived.Test.YtceapefjdiphpaaTreef
namespace Go.Proofs.Ytceapefjdiphpaa
open Go.RowKit

abbrev lessB (s t : ByteArray) : Bool := Op.bytesLess s.toList t.toList
/-- whether the file k may stand where it does -/
def okAt (fs : List FileV) (k : Nat) : Bool := match fs[k]? with
  | none => true
  | some f => goodF f && (match k with | 0 => true | j + 1 => match fs[j]? with | none => true | some p => lessB p.name f.name)
def goodT (fs : List FileV) : Bool := decide (fs.length ≤ 16) && (List.range fs.length).all (okAt fs)
theorem okAt_zero {fs : List FileV} {f : FileV} (h : fs[0]? = some f) : okAt fs 0 = goodF f := by unfold okAt; rw [h]; simp
theorem okAt_succ {fs : List FileV} {j : Nat} {f p : FileV} (h : fs[j + 1]? = some f) (hp : fs[j]? = some p) : okAt fs (j + 1) = (goodF f && lessB p.name f.name) := by unfold okAt; rw [h]; simp [hp]
theorem goodT_no {fs : List FileV} {k : Nat} (hk : k < fs.length) (h : okAt fs k = false) : goodT fs = false := by
  unfold goodT
  have : (List.range fs.length).all (okAt fs) = false := List.all_eq_false.2 ⟨k, List.mem_range.2 hk, by simp [h]⟩
  rw [this, Bool.and_false]
theorem goodT_yes {fs : List FileV} (h : ∀ j, j < fs.length → okAt fs j = true) : goodT fs = decide (fs.length ≤ 16) := by
  unfold goodT
  have : (List.range fs.length).all (okAt fs) = true := List.all_eq_true.2 fun j hj => h j (List.mem_range.1 hj)
  rw [this, Bool.and_true]
theorem underFile : Try.prog.underlying 68 = some (.struct (Try.prog.fieldsOf 68)) := by kernel_rfl
theorem infoFile : (Try.prog.info? 68).map (·.size) = some 3 := by kernel_rfl
theorem mixedT : Try.prog.follows .mixedOrders = true := by kernel_rfl

set_option maxRecDepth 100000 in
set_option maxHeartbeats 4000000 in
theorem goodT_any (fs : List FileV) (w : World) (A : Option Addr) (n c : Nat) (hn : fs.length = n) (hm : n ≤ 40) (h : TreeOk w w.heap.size A fs) :
    Calls Try.prog 41 #[.slice A n c] w (RetB w (.bool (goodT fs))) := by
  have HL := Lib.hid hn
  have H := Lib.hid h
  clear h hn
  go_enter Try.func41, Try.ntmps41
  go_wp2_with fail
  go_loopw [7] (fun i wr => ∃ k : Nat, k ≤ n ∧ i = .int .i64 k ∧ Hid (∀ j, j < k → okAt fs j = true) ∧ Below w.heap.size w wr) (fun i _ => n - (intOf i).toNat)
  case atStart => exact ⟨0, by omega, rfl, fun j hj => by omega, Below.refl _ _⟩
  case round =>
    obtain ⟨k, hk, rfl, T, hbl⟩ := hrel
    have B := Lib.hid hbl
    clear hbl
    by_cases hlt : k < n
    · obtain ⟨b, o, rfl, hb, F1⟩ := H.out.at_ (k := k) (by rw [HL.out]; exact hlt)
      have hb2 : b < wr.heap.size := Nat.lt_of_lt_of_le hb B.out.size
      have G1 := H.out.ok _ (List.getElem_mem (show k < fs.length by rw [HL.out]; exact hlt))
      have Q1 : Hid (fs[k]? = some (fs[k]'(by rw [HL.out]; exact hlt))) := List.getElem?_eq_getElem _
      generalize fs[k]'(by rw [HL.out]; exact hlt) = f at *
      obtain ⟨c0, c1, c2⟩ := fileAt_of (rangeAt_below F1 B.out hb)
      have G3 : FileOk wr wr.heap.size f := (G1.below B.out (Nat.le_refl _)).more B.out.size
      have B0 : Hid (Below wr.heap.size wr (wr.alloc (.cells #[.string f.name, .slice f.A f.also.length f.c, .slice f.L f.lines.length f.d] 68))) := below_new _ _
      have K1 : Hid (Blk (wr.alloc (.cells #[.string f.name, .slice f.A f.also.length f.c, .slice f.L f.lines.length f.d] 68)) wr.heap.size 68 #[.string f.name, .slice f.A f.also.length f.c, .slice f.L f.lines.length f.d]) := Blk.new _ _ _
      have B1 : Hid (Below w.heap.size w (wr.alloc (.cells #[.string f.name, .slice f.A f.also.length f.c, .slice f.L f.lines.length f.d] 68))) := B.out.alloc B.out.size _
      have HC : Hid (∀ w0, Below wr.heap.size wr w0 → Calls Try.prog 59 #[.agg #[.string f.name, .slice f.A f.also.length f.c, .slice f.L f.lines.length f.d]] w0 (RetB w0 (.bool (goodF f)))) := fun w0 hb' => goodF_any f w0 (G3.up hb')
      have hlk : (k : Int) < (n : Int) := by omega
      have hk0 : (0 : Int) ≤ (k : Int) := by omega
      clear F1 G1 G3
      have NO : Hid (okAt fs k = false → goodT fs = false) := fun h => goodT_no (by rw [HL.out]; exact hlt) h
      have YES : Hid (okAt fs k = true → ∀ j, j < k + 1 → okAt fs j = true) := fun h j hj => by
        rcases Nat.lt_or_ge j k with h' | h'
        · exact T.out j h'
        · obtain rfl : j = k := by omega
          exact h
      clear T
      rcases hg : goodF f with _ | _
      · have E : Hid (okAt fs k = false) := by
          cases k with
          | zero => rw [Hid, okAt_zero Q1.out]; exact hg
          | succ j => rw [Hid, okAt_succ Q1.out (List.getElem?_eq_getElem (show j < fs.length by rw [HL.out]; omega)), hg]; rfl
        have N := Lib.hid (NO.out E.out)
        rw [hg] at HC
        clear E NO YES Q1 hg
        go_wp2_with fail
        clear c0 c1 c2
        generalize (wr.alloc (.cells #[.string f.name, .slice f.A f.also.length f.c, .slice f.L f.lines.length f.d] 68)) = w0 at *
        refine wp_region_ext mixedT (by kernel_rfl) ?_
        repeat (first
          | go_big_quiet_skip
          | (refine wpQuiet_load_row K1.out underFile rfl infoFile rfl rfl ?_; simp only [List.set_cons_succ, List.set_cons_zero])
          | go_big_quiet_step ((go_at_call 59; with_reducible exact ext_call (HC.out _ (ext_trans B0.out (Ext.h _))))))
        refine wpQuiet_nil ?_
        rintro _ ⟨z, rfl⟩
        go_wp2_with fail
        go_ret
        exact ⟨ret_bool N.out.symm, B1.out.trans (z.h.mono B1.out.size)⟩
      · rw [hg] at HC
        by_cases hz : k = 0
        · have E : Hid (okAt fs k = true) := by subst hz; rw [Hid, okAt_zero Q1.out]; exact hg
          have N := Lib.hid (YES.out E.out)
          have dk : decide (0 < k) = false := decide_eq_false (by omega)
          clear E NO YES Q1 hg hz
          go_wp2_with fail
          clear c0 c1 c2
          generalize (wr.alloc (.cells #[.string f.name, .slice f.A f.also.length f.c, .slice f.L f.lines.length f.d] 68)) = w0 at *
          refine wp_region_ext mixedT (by kernel_rfl) ?_
          repeat (first
            | go_big_quiet_skip
            | (refine wpQuiet_load_row K1.out underFile rfl infoFile rfl rfl ?_; simp only [List.set_cons_succ, List.set_cons_zero])
            | go_big_quiet_step ((go_at_call 59; with_reducible exact ext_call (HC.out _ (ext_trans B0.out (Ext.h _))))))
          refine wpQuiet_nil ?_
          rintro _ ⟨z, rfl⟩
          go_wp2_with fail
          go_roundw
          case rel => exact ⟨k + 1, by omega, by go_num, N, B1.out.trans (z.h.mono B1.out.size)⟩
          case measure => simp [intOf]; omega
        · obtain ⟨j, hj⟩ : ∃ j, k = j + 1 := ⟨k - 1, by omega⟩
          have hkj : (k : Int) - 1 = (j : Int) := by omega
          have dk : decide (0 < k) = true := decide_eq_true (by omega)
          obtain ⟨b', o', hA', hb', P1⟩ := H.out.at_ (k := j) (by rw [HL.out]; omega)
          obtain ⟨rfl, rfl⟩ : b = b' ∧ o = o' := by simpa using hA'
          have Q2 : Hid (fs[j]? = some (fs[j]'(by rw [HL.out]; omega))) := List.getElem?_eq_getElem _
          generalize fs[j]'(by rw [HL.out]; omega) = p at *
          have E2 : Hid (okAt fs k = lessB p.name f.name) := by
            subst hj
            rw [Hid, okAt_succ Q1.out Q2.out, hg, Bool.true_and]
          have hjn : (j : Int) < (n : Int) := by omega
          have hj0 : (0 : Int) ≤ (j : Int) := by omega
          have PR := Lib.hid P1
          clear Q1 Q2 hg hz hA' P1
          have HJ := Lib.hid hj
          clear hj
          rcases hl : lessB p.name f.name with _ | _
          · have N : Hid (goodT fs = false) := NO.out (by rw [E2.out]; exact hl)
            have dl : Op.bytesLess p.name.toList f.name.toList = false := hl
            clear NO YES E2 hl
            go_wp2_with fail
            clear c0 c1 c2
            generalize (wr.alloc (.cells #[.string f.name, .slice f.A f.also.length f.c, .slice f.L f.lines.length f.d] 68)) = w0 at *
            have q0 : ∀ z : Ext w0, z.w.cell? ⟨b, o + j * 3, none⟩ = some (.string p.name) := fun z => (fileAt_of (rangeAt_below PR.out (B1.out.trans (z.h.mono B1.out.size)) hb)).c0
            have q1 : ∀ z : Ext w0, z.w.cell? ⟨wr.heap.size, 0, none⟩ = some (.string f.name) := fun z => (K1.out.ext z.h).cell 0
            refine wp_region_ext mixedT (by kernel_rfl) ?_
            repeat (first
              | go_big_quiet_skip
              | (refine wpQuiet_load_row K1.out underFile rfl infoFile rfl rfl ?_; simp only [List.set_cons_succ, List.set_cons_zero])
              | go_big_quiet_step ((go_at_call 59; with_reducible exact ext_call (HC.out _ (ext_trans B0.out (Ext.h _))))))
            refine wpQuiet_nil ?_
            rintro _ ⟨z, rfl⟩
            go_wp2_with fail
            go_ret
            exact ⟨ret_bool N.out.symm, B1.out.trans (z.h.mono B1.out.size)⟩
          · have N := Lib.hid (YES.out (by rw [E2.out]; exact hl))
            have dl : Op.bytesLess p.name.toList f.name.toList = true := hl
            clear NO YES E2 hl
            go_wp2_with fail
            clear c0 c1 c2
            generalize (wr.alloc (.cells #[.string f.name, .slice f.A f.also.length f.c, .slice f.L f.lines.length f.d] 68)) = w0 at *
            have q0 : ∀ z : Ext w0, z.w.cell? ⟨b, o + j * 3, none⟩ = some (.string p.name) := fun z => (fileAt_of (rangeAt_below PR.out (B1.out.trans (z.h.mono B1.out.size)) hb)).c0
            have q1 : ∀ z : Ext w0, z.w.cell? ⟨wr.heap.size, 0, none⟩ = some (.string f.name) := fun z => (K1.out.ext z.h).cell 0
            refine wp_region_ext mixedT (by kernel_rfl) ?_
            repeat (first
              | go_big_quiet_skip
              | (refine wpQuiet_load_row K1.out underFile rfl infoFile rfl rfl ?_; simp only [List.set_cons_succ, List.set_cons_zero])
              | go_big_quiet_step ((go_at_call 59; with_reducible exact ext_call (HC.out _ (ext_trans B0.out (Ext.h _))))))
            refine wpQuiet_nil ?_
            rintro _ ⟨z, rfl⟩
            go_wp2_with fail
            go_roundw
            case rel => exact ⟨k + 1, by omega, by go_num, N, B1.out.trans (z.h.mono B1.out.size)⟩
            case measure => simp [intOf]; omega
    · have hk' : k = n := by omega
      subst hk'
      have N : Hid (goodT fs = decide (fs.length ≤ 16)) := goodT_yes fun j hj => T.out j (by have := HL.out; omega)
      have N2 : Hid (goodT fs = decide ((k : Int) ≤ 16)) := by rw [Hid, N.out, HL.out]; by_cases h : k ≤ 16 <;> simp <;> omega
      clear T N
      go_wp2
      go_ret
      exact ⟨ret_bool N2.out.symm, B.out⟩
end Go.Proofs.Ytceapefjdiphpaa
