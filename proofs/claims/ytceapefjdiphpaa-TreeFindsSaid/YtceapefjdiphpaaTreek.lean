/- Trees: a tree as a text, by the document. -/
import Derived.Test.YtceapefjdiphpaaTreej
namespace Go.Proofs.Ytceapefjdiphpaa
open Go.RowKit

theorem bsT_app (a b : ByteArray) : bsT (a ++ b) = bsT a ++ bsT b := by unfold bsT; simp [ByteArray.data_append]
theorem bsT_size (a : ByteArray) : a.size = (bsT a).length := by unfold bsT; simp
theorem bsT_mk {a : ByteArray} {l : List UInt8} (h : bsT a = l) : a = ⟨l.toArray⟩ := by
  subst h; unfold bsT; apply ByteArray.ext; simp
theorem putT_succ (ah : ByteArray) (l : List ByteArray) {k : Nat} (hk : k < l.length) : putT ah (l.take (k + 1)) = putT ah (l.take k) ++ oneT ah l[k] := by
  unfold putT; rw [List.take_succ_eq_append_getElem hk, List.flatMap_append]; simp
theorem putT_le (ah : ByteArray) (l : List ByteArray) (k : Nat) : (putT ah (l.take k)).length ≤ (putT ah l).length := by
  have : putT ah l = putT ah (l.take k) ++ putT ah (l.drop k) := by unfold putT; rw [← List.flatMap_append, List.take_append_drop]
  rw [this, List.length_append]; omega

set_option maxRecDepth 100000 in
set_option maxHeartbeats 4000000 in
theorem rtext_any (fs : List FileV) (w : World) (A : Option Addr) (n c : Nat) (hn : fs.length = n) (hf : FewP fs) (h : TreeOk w w.heap.size A fs) :
    Calls Try.prog 48 #[.slice A n c] w (RetB w (.string ⟨(textT fs).toArray⟩)) := by
  have HL := Lib.hid hn
  have H := Lib.hid h
  have HF := Lib.hid hf
  have hm : n ≤ 40 := by rw [← hn]; exact hf.len
  clear h hn hf
  go_enter Try.func48, Try.ntmps48
  go_wp2_with fail
  go_loop [3, 4] (fun v i => ∃ (k : Nat) (st : ByteArray), k ≤ n ∧ i = .int .i64 k ∧ v = .string st ∧ Hid (bsT st = textT (fs.take k))) (fun _ i => n - (intOf i).toNat)
  case atStart => exact ⟨0, _, by omega, rfl, rfl, by simp [Hid, textT, bsT]⟩
  case round =>
    obtain ⟨k, st, hk, rfl, rfl, S⟩ := hrel
    by_cases hlt : k < n
    · obtain ⟨b, o, rfl, hb, F1⟩ := H.out.file (k := k) (by rw [HL.out]; exact hlt)
      have hmem := List.getElem_mem (show k < fs.length by rw [HL.out]; exact hlt)
      have G := Lib.hid (H.out.ok _ hmem)
      have FW := Lib.hid (HF.out.ok _ hmem)
      have P1 : Hid (textT (fs.take (k + 1)) = textT (fs.take k) ++ fileT (fs[k]'(by rw [HL.out]; exact hlt))) := textT_succ _
      generalize fs[k]'(by rw [HL.out]; exact hlt) = f at *
      clear hmem
      obtain ⟨c0, c1, c2⟩ := F1
      have hlk : (k : Int) < (n : Int) := by omega
      have hk0 : (0 : Int) ≤ (k : Int) := by omega
      have hs0 : st.size ≤ 1200000 := by rw [bsT_size, S.out]; exact Nat.le_trans (textT_len HF.out k) (by omega)
      have hs1 : f.name.size ≤ 200 := FW.out.name
      have hal : f.also.length ≤ 40 := FW.out.al
      have hll : f.lines.length ≤ 100 := FW.out.ll
      have L1 : Hid ((putT ah1 f.also).length ≤ 40 * 203) := Nat.le_trans (putT_len ah1 f.also FW.out.also (by decide)) (Nat.mul_le_mul_right _ FW.out.al)
      have L2 : Hid ((putT ah2 f.lines).length ≤ 100 * 203) := Nat.le_trans (putT_len ah2 f.lines FW.out.lines (by decide)) (Nat.mul_le_mul_right _ FW.out.ll)
      go_wp2_with fail
      have S0 : Hid (bsT (st ++ ⟨#[61, 32]⟩ ++ f.name ++ ⟨#[10]⟩) = textT (fs.take k) ++ putT ah0 [f.name]) := by
        rw [Hid, bsT_app, bsT_app, bsT_app, S.out]
        unfold putT oneT
        simp [bsT, ah0]
      have hz0 : (st ++ ⟨#[61, 32]⟩ ++ f.name ++ ⟨#[10]⟩ : ByteArray).size ≤ 1200300 := by
        rw [bsT_size, bsT_app, bsT_app, bsT_app]
        simp only [List.length_append]
        have e3 := bsT_size st
        have e4 := bsT_size f.name
        have e1 : (bsT ⟨#[61, 32]⟩).length = 2 := rfl
        have e2 : (bsT ⟨#[10]⟩).length = 1 := rfl
        omega
      generalize (st ++ ⟨#[61, 32]⟩ ++ f.name ++ ⟨#[10]⟩ : ByteArray) = st0 at *
      clear S hs0 c0
      go_loop [3, 5] (fun v i => ∃ (q : Nat) (st : ByteArray), q ≤ f.also.length ∧ i = .int .i64 q ∧ v = .string st ∧ Hid (bsT st = bsT st0 ++ putT ah1 (f.also.take q))) (fun _ i => f.also.length - (intOf i).toNat)
      case atStart => exact ⟨0, st0, by omega, rfl, rfl, by simp [Hid, putT]⟩
      case round =>
        obtain ⟨q, st1, hq, rfl, rfl, S1⟩ := hrel
        have hz1 : st1.size ≤ 1209000 := by
          rw [bsT_size, S1.out, List.length_append, ← bsT_size]
          have := putT_le ah1 f.also q
          have := L1.out
          omega
        by_cases hql : q < f.also.length
        · obtain ⟨b2, o2, hA2, hb2, e0⟩ := strs_at G.out.sa rfl hql
          rw [hA2] at c1
          have Q2 : Hid (putT ah1 (f.also.take (q + 1)) = putT ah1 (f.also.take q) ++ oneT ah1 (f.also[q]'hql)) := putT_succ ah1 f.also hql
          have hu := FW.out.also _ (List.getElem_mem hql)
          generalize f.also[q]'hql = s at *
          clear hA2
          have hqk : (q : Int) < (f.also.length : Int) := by omega
          have hq0 : (0 : Int) ≤ (q : Int) := by omega
          go_wp2_with fail
          go_round
          case rel => exact ⟨q + 1, _, by omega, by go_num, rfl, by rw [Hid, bsT_app, bsT_app, bsT_app, S1.out, Q2.out]; unfold oneT; simp [bsT, ah1]⟩
          case measure => simp [intOf]; omega
        · have hq' : q = f.also.length := by omega
          subst hq'
          have S2 : Hid (bsT st1 = bsT st0 ++ putT ah1 f.also) := by have := S1.out; rwa [List.take_of_length_le (Nat.le_refl _)] at this
          clear S1 hql
          go_wp2_with fail
          go_loop [3, 6] (fun v i => ∃ (q : Nat) (st : ByteArray), q ≤ f.lines.length ∧ i = .int .i64 q ∧ v = .string st ∧ Hid (bsT st = bsT st1 ++ putT ah2 (f.lines.take q))) (fun _ i => f.lines.length - (intOf i).toNat)
          case atStart => exact ⟨0, st1, by omega, rfl, rfl, by simp [Hid, putT]⟩
          case round =>
            obtain ⟨q, st2, hq, rfl, rfl, S3⟩ := hrel
            have hz2 : st2.size ≤ 1230000 := by
              rw [bsT_size, S3.out, List.length_append, ← bsT_size]
              have := putT_le ah2 f.lines q
              have := L2.out
              omega
            by_cases hql : q < f.lines.length
            · obtain ⟨b2, o2, hA2, hb2, e0⟩ := strs_at G.out.sl rfl hql
              rw [hA2] at c2
              have Q2 : Hid (putT ah2 (f.lines.take (q + 1)) = putT ah2 (f.lines.take q) ++ oneT ah2 (f.lines[q]'hql)) := putT_succ ah2 f.lines hql
              have hu := FW.out.lines _ (List.getElem_mem hql)
              generalize f.lines[q]'hql = s at *
              clear hA2
              have hqk : (q : Int) < (f.lines.length : Int) := by omega
              have hq0 : (0 : Int) ≤ (q : Int) := by omega
              go_wp2_with fail
              go_round
              case rel => exact ⟨q + 1, _, by omega, by go_num, rfl, by rw [Hid, bsT_app, bsT_app, bsT_app, S3.out, Q2.out]; unfold oneT; simp [bsT, ah2]⟩
              case measure => simp [intOf]; omega
            · have hq' : q = f.lines.length := by omega
              subst hq'
              have S4 : Hid (bsT st2 = textT (fs.take (k + 1))) := by
                have := S3.out
                rw [List.take_of_length_le (Nat.le_refl _), S2.out, S0.out] at this
                rw [Hid, this, P1.out]
                unfold fileT
                simp
              clear S3 hql S2 S0 P1
              go_wp2_with fail
              go_round
              case rel => exact ⟨k + 1, st2, by omega, by go_num, rfl, S4⟩
              case measure => simp [intOf]; omega
    · have hk' : k = n := by omega
      subst hk'
      have S2 : Hid (st = ⟨(textT fs).toArray⟩) := bsT_mk (by have := S.out; rwa [List.take_of_length_le (by rw [HL.out]; exact Nat.le_refl _)] at this)
      go_wp2
      go_ret
      exact ⟨by rw [S2.out]; rfl, Below.refl _ _⟩
end Go.Proofs.Ytceapefjdiphpaa
