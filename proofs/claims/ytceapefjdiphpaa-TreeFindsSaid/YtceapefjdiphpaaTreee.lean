/- Trees: few and small enough. -/
import Derived.Test.YtceapefjdiphpaaTreed
namespace Go.Proofs.Ytceapefjdiphpaa
open Go.RowKit

structure FewF (f : FileV) : Prop where
  name : f.name.size ≤ 200
  al : f.also.length ≤ 40
  ll : f.lines.length ≤ 100
  also : ∀ s ∈ f.also, s.size ≤ 200
  lines : ∀ s ∈ f.lines, s.size ≤ 200
structure FewP (fs : List FileV) : Prop where
  len : fs.length ≤ 40
  ok : ∀ f ∈ fs, FewF f
def FewRet (fs : List FileV) (w : World) (e : Ending) (w' : World) : Prop := w = w' ∧ ((FewP fs ∧ e = .returned (.int .i64 1)) ∨ (¬ FewP fs ∧ e = .returned (.int .i64 0)))

set_option maxRecDepth 100000 in
set_option maxHeartbeats 4000000 in
theorem few_any (fs : List FileV) (w : World) (A : Option Addr) (n c : Nat) (hn : fs.length = n) (hc : n ≤ maxLen) (h : TreeOk w w.heap.size A fs) :
    Calls Try.prog 39 #[.slice A n c] w (FewRet fs w) := by
  unfold maxLen at hc
  by_cases hm : n ≤ 40
  · have HL := Lib.hid hn
    have H := Lib.hid h
    clear h hn
    have hd : ¬ (40 : Int) < (n : Int) := by omega
    go_enter Try.func39, Try.ntmps39
    go_wp2_with fail
    go_loop [3] (fun i => ∃ k : Nat, k ≤ n ∧ i = .int .i64 k ∧ Hid (∀ j (hj : j < fs.length), j < k → FewF fs[j])) (fun i => n - (intOf i).toNat)
    case atStart => exact ⟨0, by omega, rfl, fun j _ hj => by omega⟩
    case round =>
      obtain ⟨k, hk, rfl, T⟩ := hrel
      by_cases hlt : k < n
      · obtain ⟨b, o, rfl, hb, F1⟩ := H.out.file (k := k) (by rw [HL.out]; exact hlt)
        have hmem := List.getElem_mem (show k < fs.length by rw [HL.out]; exact hlt)
        have G := Lib.hid (H.out.ok _ hmem)
        have Q1 : Hid (∀ hk' : k < fs.length, (fs[k]'hk') = fs[k]'(by rw [HL.out]; exact hlt)) := fun _ => rfl
        have M := Lib.hid hmem
        generalize fs[k]'(by rw [HL.out]; exact hlt) = f at *
        clear hmem
        obtain ⟨c0, c1, c2⟩ := F1
        have hlk : (k : Int) < (n : Int) := by omega
        have hk0 : (0 : Int) ≤ (k : Int) := by omega
        have NO : Hid (¬ FewF f → ¬ FewP fs) := fun hf hp => hf (hp.ok f M.out)
        have YES : Hid (FewF f → ∀ j (hj : j < fs.length), j < k + 1 → FewF fs[j]) := fun hf j hj hjk => by
          rcases Nat.lt_or_ge j k with h | h
          · exact T.out j hj h
          · obtain rfl : j = k := by omega
            rw [Q1.out]; exact hf
        clear Q1 T M
        by_cases h1 : f.name.size ≤ 200
        · have d1 : ¬ (200 : Int) < (f.name.size : Int) := by omega
          have D1 : decide ((200 : Int) < (f.name.size : Int)) = false := decide_eq_false d1
          by_cases h2 : f.also.length ≤ 40
          · have D2 : decide ((40 : Int) < (f.also.length : Int)) = false := decide_eq_false (by omega)
            by_cases h3 : f.lines.length ≤ 100
            · have d3 : ¬ (100 : Int) < (f.lines.length : Int) := by omega
              clear d1
              go_wp2_with fail
              go_loop [4] (fun i => ∃ q : Nat, q ≤ f.also.length ∧ i = .int .i64 q ∧ Hid (∀ j (hj : j < f.also.length), j < q → f.also[j].size ≤ 200)) (fun i => f.also.length - (intOf i).toNat)
              case atStart => exact ⟨0, by omega, rfl, fun j _ hj => by omega⟩
              case round =>
                obtain ⟨q, hq, rfl, T2⟩ := hrel
                by_cases hql : q < f.also.length
                · obtain ⟨b2, o2, hA2, hb2, e0⟩ := strs_at G.out.sa rfl hql
                  rw [hA2] at c1
                  have M2 := Lib.hid (List.getElem_mem hql)
                  have Q2 : Hid (∀ hk' : q < f.also.length, (f.also[q]'hk') = f.also[q]'hql) := fun _ => rfl
                  generalize f.also[q]'hql = s at *
                  clear hA2
                  have hqk : (q : Int) < (f.also.length : Int) := by omega
                  have hq0 : (0 : Int) ≤ (q : Int) := by omega
                  by_cases h4 : s.size ≤ 200
                  · have d4 : ¬ (200 : Int) < (s.size : Int) := by omega
                    have T3 : Hid (∀ j (hj : j < f.also.length), j < q + 1 → f.also[j].size ≤ 200) := fun j hj hjq => by
                      rcases Nat.lt_or_ge j q with h | h
                      · exact T2.out j hj h
                      · obtain rfl : j = q := by omega
                        rw [Q2.out]; exact h4
                    clear T2 Q2 M2
                    go_wp2_with fail
                    go_round
                    case rel => exact ⟨q + 1, by omega, by go_num, T3⟩
                    case measure => simp [intOf]; omega
                  · have d4 : (200 : Int) < (s.size : Int) := by omega
                    have N : Hid (¬ FewP fs) := NO.out fun hf => h4 (hf.also s M2.out)
                    clear T2 Q2 M2 h4
                    go_wp2_with fail
                    go_ret
                    exact ⟨rfl, .inr ⟨N.out, rfl⟩⟩
                · have hq' : q = f.also.length := by omega
                  subst hq'
                  have hql' : ¬ (f.also.length : Int) < (f.also.length : Int) := by omega
                  clear hql
                  go_wp2_with fail
                  go_loop [5] (fun i => ∃ q : Nat, q ≤ f.lines.length ∧ i = .int .i64 q ∧ Hid (∀ j (hj : j < f.lines.length), j < q → f.lines[j].size ≤ 200)) (fun i => f.lines.length - (intOf i).toNat)
                  case atStart => exact ⟨0, by omega, rfl, fun j _ hj => by omega⟩
                  case round =>
                    obtain ⟨q, hq, rfl, T3⟩ := hrel
                    by_cases hql : q < f.lines.length
                    · obtain ⟨b2, o2, hA2, hb2, e0⟩ := strs_at G.out.sl rfl hql
                      rw [hA2] at c2
                      have M2 := Lib.hid (List.getElem_mem hql)
                      have Q2 : Hid (∀ hk' : q < f.lines.length, (f.lines[q]'hk') = f.lines[q]'hql) := fun _ => rfl
                      generalize f.lines[q]'hql = s at *
                      clear hA2
                      have hqk : (q : Int) < (f.lines.length : Int) := by omega
                      have hq0 : (0 : Int) ≤ (q : Int) := by omega
                      by_cases h4 : s.size ≤ 200
                      · have d4 : ¬ (200 : Int) < (s.size : Int) := by omega
                        have T4 : Hid (∀ j (hj : j < f.lines.length), j < q + 1 → f.lines[j].size ≤ 200) := fun j hj hjq => by
                          rcases Nat.lt_or_ge j q with h | h
                          · exact T3.out j hj h
                          · obtain rfl : j = q := by omega
                            rw [Q2.out]; exact h4
                        clear T3 Q2 M2
                        go_wp2_with fail
                        go_round
                        case rel => exact ⟨q + 1, by omega, by go_num, T4⟩
                        case measure => simp [intOf]; omega
                      · have d4 : (200 : Int) < (s.size : Int) := by omega
                        have N : Hid (¬ FewP fs) := NO.out fun hf => h4 (hf.lines s M2.out)
                        clear T3 Q2 M2 h4
                        go_wp2_with fail
                        go_ret
                        exact ⟨rfl, .inr ⟨N.out, rfl⟩⟩
                    · have hq' : q = f.lines.length := by omega
                      subst hq'
                      have N := Lib.hid (YES.out ⟨h1, h2, h3, fun s hs => by
                        obtain ⟨j, hj, rfl⟩ := List.getElem_of_mem hs; exact T2.out j hj hj, fun s hs => by
                        obtain ⟨j, hj, rfl⟩ := List.getElem_of_mem hs; exact T3.out j hj hj⟩)
                      clear T2 T3 hql
                      go_wp2_with fail
                      go_round
                      case rel => exact ⟨k + 1, by omega, by go_num, N⟩
                      case measure => simp [intOf]; omega
            · have d3 : (100 : Int) < (f.lines.length : Int) := by omega
              have N : Hid (¬ FewP fs) := NO.out fun hf => h3 hf.ll
              clear d1
              go_wp2_with fail
              go_ret
              exact ⟨rfl, .inr ⟨N.out, rfl⟩⟩
          · have D2 : decide ((40 : Int) < (f.also.length : Int)) = true := decide_eq_true (by omega)
            have N : Hid (¬ FewP fs) := NO.out fun hf => h2 hf.al
            clear d1
            go_wp2_with fail
            go_ret
            exact ⟨rfl, .inr ⟨N.out, rfl⟩⟩
        · have D1 : decide ((200 : Int) < (f.name.size : Int)) = true := decide_eq_true (by omega)
          have N : Hid (¬ FewP fs) := NO.out fun hf => h1 hf.name
          go_wp2_with fail
          go_ret
          exact ⟨rfl, .inr ⟨N.out, rfl⟩⟩
      · have N : Hid (FewP fs) := ⟨by rw [HL.out]; exact hm, fun f hf => by
          obtain ⟨j, hj, rfl⟩ := List.getElem_of_mem hf
          exact T.out j hj (by have := HL.out; omega)⟩
        have hk' : k = n := by omega
        subst hk'
        clear T
        go_wp2
        go_ret
        exact ⟨rfl, .inl ⟨N.out, rfl⟩⟩
  · have N : Hid (¬ FewP fs) := fun hp => hm (by rw [← hn]; exact hp.len)
    have hd : (40 : Int) < (n : Int) := by omega
    clear h hn
    go_enter Try.func39, Try.ntmps39
    go_wp2
    go_ret
    exact ⟨rfl, .inr ⟨N.out, rfl⟩⟩
end Go.Proofs.Ytceapefjdiphpaa
