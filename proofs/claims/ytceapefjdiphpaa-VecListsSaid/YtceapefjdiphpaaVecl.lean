/- Vectors: the document's list of all patches; whether two lists of names are the same. -/
import Derived.Test.YtceapefjdiphpaaVecd
import Derived.Test.YtceapefjdiphpaaMid
namespace Go.Proofs.Ytceapefjdiphpaa
open Go.RowKit

set_option maxRecDepth 100000 in
set_option maxHeartbeats 1000000 in
theorem rof_k (a : List Int) (ha : VecOk a) (k : Nat) (hk : k < 64) (w : World) : Calls Try.prog 51 #[.agg (vecA a), .int .u8 ((k : Int) + 1)] w (RetB w (.int .i64 (a.getD k 0))) := by
  have K1 : Hid (Blk (w.alloc (.cells (vecA a) 24)) w.heap.size 24 (vecA a)) := Blk.new _ _ _
  have B0 : Hid (Below w.heap.size w (w.alloc (.cells (vecA a) 24))) := (Below.refl _ _).alloc (Nat.le_refl _) _
  have c1 := K1.out.cell k
  rw [vecA_get _ _ (by rw [ha.len]; omega)] at c1
  obtain ⟨x0, x1⟩ := ha.get k hk
  have hb0 : (k : Int) < 64 := by omega
  have hb1 : (0 : Int) ≤ (k : Int) := by omega
  clear ha hk
  generalize a.getD k 0 = x at *
  go_enter Try.func51, Try.ntmps51
  go_wp2
  go_ret
  exact ⟨rfl, B0.out⟩

theorem neq_pid (a b c d : Int) (w : World) : (binOp .neq 38 (.agg #[.int .u8 a, .int .u16 b]) (.agg #[.int .u8 c, .int .u16 d])).run Try.prog w = .ok (.bool (!(decide (a = c) && decide (b = d)))) w := by
  simp [go_sem]
  by_cases h1 : a = c <;> by_cases h2 : b = d <;> simp [h1, h2]

set_option maxRecDepth 100000 in
set_option maxHeartbeats 1000000 in
theorem rall_any (a : List Int) (ha : VecOk a) (w : World) : Calls Try.prog 16 #[.agg (vecA a)] w (RetSl w 2 (allTo a 64).length (pidCs (allTo a 64))) := by
  have HA := Lib.hid ha
  have hs1 : Hid ((vecA a).size = 64) := by rw [Hid, vecA_size]; exact ha.len
  have B0 : Hid (Below w.heap.size w (w.alloc (.cells (vecA a) 24))) := (Below.refl _ _).alloc (Nat.le_refl _) _
  have K1 : Hid (Blk (w.alloc (.cells (vecA a) 24)) w.heap.size 24 (vecA a)) := Blk.new _ _ _
  clear ha
  go_enter Try.func16, Try.ntmps16
  have hN : Hid ((w.alloc (.cells (vecA a) 24)).heap.size = w.heap.size + 1) := by simp [Hid]
  go_wp2_with fail
  generalize (w.alloc (.cells (vecA a) 24)) = w0 at *
  go_loopw [3, 4] (fun v i wr => ∃ k : Nat, k ≤ 64 ∧ i = .int .i64 ((k : Int) + 1) ∧ wr.ownsRow w0.heap.size 38 2 v (allTo a k).length (pidCs (allTo a k)) ∧ Below w0.heap.size w0 wr) (fun _ i _ => 65 - (intOf i).toNat)
  case atStart => exact ⟨0, by omega, rfl, World.ownsRow_nil _ _ _ _, Below.refl _ _⟩
  case round =>
    obtain ⟨k, hk, rfl, hown, hbl⟩ := hrel
    have O := Lib.hid hown
    have B := Lib.hid hbl
    clear hown hbl
    have hll := allTo_len HA.out k hk
    by_cases hlt : k < 64
    · have HO := Lib.hid (fun w0 => rof_k a HA.out k hlt w0)
      obtain ⟨x0, x1⟩ := HA.out.get k hlt
      have S := Lib.hid (allTo_succ a k)
      obtain ⟨m, hm⟩ : ∃ m : Nat, a.getD k 0 = m := ⟨(a.getD k 0).toNat, by omega⟩
      rw [hm] at HO x0 x1
      rw [hm, Int.toNat_natCast] at S
      clear hm
      have hb0 : (k : Int) + 1 ≤ 64 := by omega
      go_wp2_with fail
      obtain ⟨wo, hwo⟩ : ∃ wo : World, wo = wr := ⟨_, rfl⟩
      rw [← hwo] at O B
      rw [← hwo]
      clear hwo
      go_loopw [3, 5] (fun v i wr => ∃ j : Nat, j ≤ m ∧ i = .int .i64 ((j : Int) + 1) ∧ wr.ownsRow w0.heap.size 38 2 v (allTo a k ++ rowTo k j).length (pidCs (allTo a k ++ rowTo k j)) ∧ Below w0.heap.size w0 wr) (fun _ i _ => m + 1 - (intOf i).toNat)
      case atStart => exact ⟨0, by omega, rfl, by simpa [rowTo] using O.out, B.out⟩
      case round =>
        clear O B
        obtain ⟨j, hj, rfl, hown, hbl⟩ := hrel
        have O := Lib.hid hown
        have B := Lib.hid hbl
        clear hown hbl
        have K2 := Lib.hid (K1.out.ext B.out)
        go_wp2_with (refine wpList_load_row rfl 24 _ (by rfl) w.heap.size (by rfl) _ _ _ _ K2.out under64 rfl (by rw [hs1.out]; exact info64) ?_)
        refine (HO.out _).mono ?_
        rintro e w1 ⟨rfl, b1⟩
        have B1 := Lib.hid (B.out.trans (b1.mono B.out.size))
        have O1 := Lib.hid (own_ext O.out b1)
        clear O B b1
        by_cases hjl : j < m
        · have hbj : (j : Int) + 1 ≤ (m : Int) := by omega
          have hlen : (allTo a k ++ rowTo k j).length ≤ 5000000 := by rw [List.length_append, rowTo_len]; omega
          go_wp2_with (at_builtin; refine wpList_push pidSl O1.out [.int .u8 ((k : Int) + 1), .int .u16 ((j : Int) + 1)] rfl (by simp [Value.oneCell']) B1.out.size (by omega) (by unfold maxLen; omega) (by rfl) (by rfl) (by rfl) ?_; intro v1 w2 own1 bel1)
          go_roundw
          case rel => exact ⟨j + 1, by omega, by go_num, own_step own1, B1.out.trans bel1⟩
          case measure => simp [intOf]; omega
        · have hj' : j = m := by omega
          subst hj'
          go_wp2
          go_roundw
          case rel => exact ⟨k + 1, by omega, by go_num, by rw [S.out]; exact O1.out, B1.out⟩
          case measure => simp [intOf]; omega
    · have hk' : k = 64 := by omega
      subst hk'
      obtain ⟨A, c, hv, hnc, hsl⟩ := Sl.of_own O.out
      subst hv
      go_wp2
      go_ret
      exact ⟨A, c, rfl, hnc, hsl, B0.out.trans (B.out.mono B0.out.size)⟩

theorem under38 : Try.prog.underlying 38 = some (.struct (Try.prog.fieldsOf 38)) := by kernel_rfl
theorem info38 : (Try.prog.info? 38).map (·.size) = some 2 := by kernel_rfl
theorem pidSl_at {w : World} {B n : Nat} {A : Option Addr} {l : List (Int × Int)} (h : Sl w B 2 A n (pidCs l)) (hn : l.length = n) {k : Nat} (hk : k < l.length) :
    ∃ b o, A = some ⟨b, o, none⟩ ∧ b < B ∧ w.rangeAt b (o + k * 2) [.int .u8 l[k].1, .int .u16 l[k].2] :=
  h.rowAt (enc := pidC) hn (fun _ _ => rfl) hk

set_option maxRecDepth 100000 in
set_option maxHeartbeats 1000000 in
theorem rsame_any (l l' : List (Int × Int)) (w : World) (A A' : Option Addr) (n n' c c' : Nat) (hn : l.length = n) (hn' : l'.length = n') (hm : n < 9223372036854775807) (h : Sl w w.heap.size 2 A n (pidCs l)) (h' : Sl w w.heap.size 2 A' n' (pidCs l')) :
    Calls Try.prog 14 #[.slice A n c, .slice A' n' c'] w (RetD w (.bool (decide (l = l')))) := by
  by_cases hne : n = n'
  · subst hne
    have HL := Lib.hid hn
    have HL' := Lib.hid hn'
    have H := Lib.hid h
    have H' := Lib.hid h'
    clear h h' hn hn'
    have hnn : ¬ ((n : Int) ≠ (n : Int)) := by simp
    go_enter Try.func14, Try.ntmps14
    go_wp2_with fail
    go_loopw [5] (fun i wr => ∃ k : Nat, k ≤ n ∧ i = .int .i64 k ∧ l.take k = l'.take k ∧ ∃ m, wr = w.drewN m) (fun i _ => n - (intOf i).toNat)
    case atStart => exact ⟨0, by omega, rfl, by simp, 0, rfl⟩
    case round =>
      obtain ⟨k, hk, rfl, ht, q, rfl⟩ := hrel
      have T := Lib.hid ht
      clear ht
      by_cases hlt : k < n
      · obtain ⟨b, o, rfl, hb, L1⟩ := pidSl_at H.out HL.out (k := k) (by rw [HL.out]; exact hlt)
        obtain ⟨b', o', rfl, hb', L2⟩ := pidSl_at H'.out HL'.out (k := k) (by rw [HL'.out]; exact hlt)
        have P1 : Hid (l.take (k + 1) = l.take k ++ [l[k]'(by rw [HL.out]; exact hlt)]) := List.take_succ_eq_append_getElem _
        have P2 : Hid (l'.take (k + 1) = l'.take k ++ [l'[k]'(by rw [HL'.out]; exact hlt)]) := List.take_succ_eq_append_getElem _
        have Q1 : Hid (l[k]? = some (l[k]'(by rw [HL.out]; exact hlt))) := List.getElem?_eq_getElem _
        have Q2 : Hid (l'[k]? = some (l'[k]'(by rw [HL'.out]; exact hlt))) := List.getElem?_eq_getElem _
        generalize l[k]'(by rw [HL.out]; exact hlt) = p at *
        generalize l'[k]'(by rw [HL'.out]; exact hlt) = p' at *
        obtain ⟨a1, s1⟩ := p
        obtain ⟨a2, s2⟩ := p'
        have hlk : (k : Int) < (n : Int) := by omega
        have hk0 : (0 : Int) ≤ (k : Int) := by omega
        by_cases he : a1 = a2 ∧ s1 = s2
        · obtain ⟨rfl, rfl⟩ := he
          have NE : ∀ w : World, (binOp .neq 38 (.agg #[.int .u8 a1, .int .u16 s1]) (.agg #[.int .u8 a1, .int .u16 s1])).run Try.prog w = .ok (.bool false) w := fun w => by rw [neq_pid]; simp
          have N : Hid (l.take (k + 1) = l'.take (k + 1)) := by rw [Hid, P1.out, P2.out, T.out]
          clear P1 P2 Q1 Q2 T
          go_wp2_with fail
          refine wp_region_quiet_lit (by kernel_rfl) (by kernel_rfl) ?_
          repeat (first | (refine wpQuiet_load_mid (rangeAt_drewN2 L1) under38 rfl info38 rfl rfl ?_; simp only [List.set_cons_succ, List.set_cons_zero]) | (refine wpQuiet_load_mid (rangeAt_drewN2 L2) under38 rfl info38 rfl rfl ?_; simp only [List.set_cons_succ, List.set_cons_zero]) | go_big_quiet_step (fail))
          refine wpQuiet_nil ?_
          rintro _ ⟨nq, rfl⟩
          go_wp2_with fail
          go_roundw
          case rel => exact ⟨k + 1, by omega, by go_num, N.out, q + nq, by first | rfl | exact World.drewN_drewN _ _ _⟩
          case measure => simp [intOf]; omega
        · have NE : ∀ w : World, (binOp .neq 38 (.agg #[.int .u8 a1, .int .u16 s1]) (.agg #[.int .u8 a2, .int .u16 s2])).run Try.prog w = .ok (.bool true) w := fun w => by
            rw [neq_pid]; simp only [Result.ok.injEq, Value.bool.injEq, and_true]
            by_cases h1 : a1 = a2 <;> by_cases h2 : s1 = s2 <;> simp_all
          have N : Hid (l ≠ l') := fun e => he (by have h1 := Q1.out; rw [e, Q2.out] at h1; simpa using h1.symm)
          clear P1 P2 Q1 Q2 T he
          go_wp2_with fail
          refine wp_region_quiet_lit (by kernel_rfl) (by kernel_rfl) ?_
          repeat (first | (refine wpQuiet_load_mid (rangeAt_drewN2 L1) under38 rfl info38 rfl rfl ?_; simp only [List.set_cons_succ, List.set_cons_zero]) | (refine wpQuiet_load_mid (rangeAt_drewN2 L2) under38 rfl info38 rfl rfl ?_; simp only [List.set_cons_succ, List.set_cons_zero]) | go_big_quiet_step (fail))
          refine wpQuiet_nil ?_
          rintro _ ⟨nq, rfl⟩
          go_wp2_with fail
          go_ret
          exact ⟨ret_bool (decide_eq_false N.out).symm, q + nq, by first | rfl | exact World.drewN_drewN _ _ _⟩
      · have hk' : k = n := by omega
        subst hk'
        have N : Hid (l = l') := by have h1 := T.out; rw [List.take_of_length_le (by rw [HL.out]; exact Nat.le_refl _), List.take_of_length_le (by rw [HL'.out]; exact Nat.le_refl _)] at h1; exact h1
        go_wp2
        go_ret
        exact ⟨ret_bool (decide_eq_true N.out).symm, q, rfl⟩
  · have N : Hid (l ≠ l') := fun e => hne (by rw [← hn, ← hn', e])
    have hd : ¬ (n : Int) = (n' : Int) := by omega
    clear hn hn' h h' hne
    go_enter Try.func14, Try.ntmps14
    go_wp2
    go_ret
    exact ⟨ret_bool (decide_eq_false N.out).symm, 0, rfl⟩
end Go.Proofs.Ytceapefjdiphpaa
