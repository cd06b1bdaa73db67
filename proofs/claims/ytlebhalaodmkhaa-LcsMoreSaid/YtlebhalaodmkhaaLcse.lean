/- The statements on what two lists have in common: few, the chapter's example. -/
import Derived.Test.YtlebhalaodmkhaaLcsd
namespace Go.Proofs.Ytlebhalaodmkhaa
open Go.RowKit

def fewB (xs : List ByteArray) : Bool := decide (xs.length ≤ 40) && xs.all fun s => decide (s.size ≤ 100)
theorem fewB_len {xs : List ByteArray} (h : fewB xs = true) : xs.length ≤ 40 := by
  unfold fewB at h; simp at h; exact h.1
theorem fewB_snoc (xs : List ByteArray) (k : Nat) (s : ByteArray) (h0 : xs[k]? = some s) (hs : s.size ≤ 100) (h' : (xs.take k).all (fun s => decide (s.size ≤ 100)) = true) : (xs.take (k + 1)).all (fun s => decide (s.size ≤ 100)) = true := by
  obtain ⟨h, rfl⟩ := List.getElem?_eq_some_iff.1 h0
  rw [List.take_succ_eq_append_getElem h, List.all_append, h']; simp [hs]

theorem all_false_at (xs : List ByteArray) (k : Nat) (s : ByteArray) (h0 : xs[k]? = some s) (hs : ¬ s.size ≤ 100) : xs.all (fun s => decide (s.size ≤ 100)) = false := by
  obtain ⟨h, rfl⟩ := List.getElem?_eq_some_iff.1 h0
  rw [List.all_eq_false]; exact ⟨xs[k], List.getElem_mem h, by simpa using hs⟩
set_option maxHeartbeats 1000000 in
theorem few_any (xs : List ByteArray) (A : Option Addr) (c : Nat) (w : World) (ha : Sl w w.heap.size 1 A xs.length (xs.map Value.string)) :
    Calls Try.prog 23 #[.slice A xs.length c] w (Ret w (.bool (fewB xs))) := by
  have HA := Lib.hid ha
  have F0 : Hid (¬ xs.length ≤ 40 → fewB xs = false) := fun h => by unfold fewB; simp [h]
  have F1 : Hid (∀ (k : Nat) (s : ByteArray), xs[k]? = some s → ¬ s.size ≤ 100 → fewB xs = false) := fun k s h hs => by
    unfold fewB
    rw [all_false_at xs k s h hs]; simp
  have F2 : Hid (xs.length ≤ 40 → (xs.take xs.length).all (fun s => decide (s.size ≤ 100)) = true → fewB xs = true) := fun h h' => by
    unfold fewB
    rw [List.take_length] at h'
    rw [h']; simp [h]
  have FS := Lib.hid (fewB_snoc xs)
  generalize fewB xs = b at *
  generalize hm : xs.length = m at *
  have HM := Lib.hid hm
  clear hm ha
  by_cases hle : m ≤ 40
  · have h1 : ¬ (40 : Int) < (m : Int) := by omega
    go_enter Try.func23, Try.ntmps23
    go_wp2
    go_loop [3] (fun z => ∃ k : Nat, k ≤ m ∧ z = .int .i64 k ∧ Hid ((xs.take k).all (fun s => decide (s.size ≤ 100)) = true)) (fun z => m - (intOf z).toNat)
    case atStart => exact ⟨0, by omega, rfl, by rw [Hid]; simp⟩
    case round =>
      obtain ⟨k, hk, rfl, hall⟩ := hrel
      by_cases hlt : k < m
      · obtain ⟨sa, oa, u, rfl, hsa, hu, hca⟩ := HA.out.at_ hlt
        obtain ⟨s, hs0, rfl⟩ : ∃ s, xs[k]? = some s ∧ u = .string s := by
          rw [List.getElem?_map] at hu
          obtain ⟨s, h1, h2⟩ := Option.map_eq_some_iff.1 hu
          exact ⟨s, h1, h2.symm⟩
        have F1 := Lib.hid (F1.out k s hs0)
        have FS := Lib.hid (FS.out k s hs0)
        clear hu hs0
        have k0 : (0 : Int) ≤ (k : Int) := by omega
        have k1 : (k : Int) < (m : Int) := by omega
        by_cases hs : s.size ≤ 100
        · have hs' : ¬ (100 : Int) < (s.size : Int) := by omega
          go_wp2
          go_round
          case rel => exact ⟨k + 1, by omega, by go_num, FS.out hs hall.out⟩
          case measure => simp [intOf]; omega
        · have hs' : (100 : Int) < (s.size : Int) := by omega
          have G := Lib.hid (F1.out hs)
          clear hs F1
          go_wp2
          go_ret
          exact ⟨ret_bool G.out.symm, rfl⟩
      · have hk' : k = m := by omega
        subst hk'
        have G := Lib.hid (F2.out hle hall.out)
        go_wp2
        go_ret
        exact ⟨ret_bool G.out.symm, rfl⟩
  · have h1 : (40 : Int) < (m : Int) := by omega
    have G := Lib.hid (F0.out hle)
    clear hle
    go_enter Try.func23, Try.ntmps23
    go_wp2
    go_ret
    exact ⟨ret_bool G.out.symm, rfl⟩

theorem ex26 : lcsM [ByteArray.mk #[120], ByteArray.mk #[121], ByteArray.mk #[122]] [ByteArray.mk #[121], ByteArray.mk #[120], ByteArray.mk #[122]] 0 0 = [(1, 0), (2, 2)] := by
  simp [lcsM, lcsT, lcsL]
theorem sl_new (w : World) (e : TypeId) (cs : Array Value) (n : Nat) (hn : n = cs.size) : Sl (w.alloc (.cells cs e)) (w.heap.size + 1) 1 (some ⟨w.heap.size, 0, none⟩) n cs.toList := by
  subst hn
  refine ⟨by simp, fun _ => ⟨w.heap.size, 0, rfl, by omega, fun j _ => ?_⟩⟩
  rw [Nat.zero_add, (Blk.new w e cs).cell j]; simp
theorem neqPair (a b c d : Int) (w : World) : (binOp .neq 38 (.agg #[.int .i64 a, .int .i64 b]) (.agg #[.int .i64 c, .int .i64 d])).run Try.prog w = .ok (.bool (!decide (([a, b] : List Int) = [c, d]))) w :=
  run_neq_ints (k := .i64) Try.underlying38 Try.underlying3 (fun _ => by kernel_rfl) (fun _ => by kernel_rfl) [a, b] [c, d] rfl rfl w
theorem eqlPair (a b c d : Int) (w : World) : (binOp .eql 38 (.agg #[.int .i64 a, .int .i64 b]) (.agg #[.int .i64 c, .int .i64 d])).run Try.prog w = .ok (.bool (decide (([a, b] : List Int) = [c, d]))) w :=
  run_eql_ints (k := .i64) Try.underlying38 Try.underlying3 (fun _ => by kernel_rfl) (fun _ => by kernel_rfl) [a, b] [c, d] rfl rfl w

set_option maxRecDepth 100000 in
set_option maxHeartbeats 1000000 in
theorem works26 (w : World) : Calls Try.prog 24 #[] w (RetB w (.bool true)) := by
  have E := Lib.hid ex26
  have M := Lib.hid (fun A B ca cb w ha hb => match_any [ByteArray.mk #[120], ByteArray.mk #[121], ByteArray.mk #[122]] [ByteArray.mk #[121], ByteArray.mk #[120], ByteArray.mk #[122]] A B ca cb w ha hb (by simp) (by simp))
  rw [E.out] at M
  have S1 := Lib.hid (sl_new w 9 #[.string (ByteArray.mk #[120]), .string (ByteArray.mk #[121]), .string (ByteArray.mk #[122])] 3 rfl)
  have S2 := Lib.hid (sl_new (w.alloc (.cells #[.string (ByteArray.mk #[120]), .string (ByteArray.mk #[121]), .string (ByteArray.mk #[122])] 9)) 9 #[.string (ByteArray.mk #[121]), .string (ByteArray.mk #[120]), .string (ByteArray.mk #[122])] 3 rfl)
  have EQ := eqlPair
  go_enter Try.func24, Try.ntmps24
  go_wp2_with fail
  have S1' := Lib.hid (((S1.out.keep (w' := (w.alloc (.cells #[.string (ByteArray.mk #[120]), .string (ByteArray.mk #[121]), .string (ByteArray.mk #[122])] 9)).alloc (.cells #[.string (ByteArray.mk #[121]), .string (ByteArray.mk #[120]), .string (ByteArray.mk #[122])] 9)) (fun b o h => World.cell?_alloc_lt _ _ _ (by simpa using h))).more (C := w.heap.size + 1 + 1) (by omega)))
  have B0 : Hid (Below w.heap.size w ((w.alloc (.cells #[.string (ByteArray.mk #[120]), .string (ByteArray.mk #[121]), .string (ByteArray.mk #[122])] 9)).alloc (.cells #[.string (ByteArray.mk #[121]), .string (ByteArray.mk #[120]), .string (ByteArray.mk #[122])] 9))) := ((Below.refl _ _).alloc (Nat.le_refl _) _).alloc (by simp) _
  refine (M.out _ _ 3 3 _ (by simpa using S1'.out) (by simpa using S2.out)).mono ?_
  rintro e w1 ⟨A, c, rfl, hc, hs, hb⟩
  have B1 := Lib.hid (ext_trans B0.out hb)
  obtain ⟨sb, so, rfl, hsb, hcell⟩ := hs.2 (by simp)
  have q0 := hcell 0 (by simp)
  have q1 := hcell 1 (by simp)
  have q2 := hcell 2 (by simp)
  have q3 := hcell 3 (by simp)
  simp [pairC] at q0 q1 q2 q3
  clear M S1 S2 S1' B0 hs hb hcell
  go_wp2
  go_ret
  exact ⟨rfl, B1.out⟩
theorem at_pair {w : World} {B : Nat} {A : Option Addr} {l : List (Nat × Nat)} (h : Sl w B 2 A l.length (pairC l)) {k : Nat} (hk : k < l.length) :
    ∃ b o, A = some ⟨b, o, none⟩ ∧ b < B ∧ w.cell? ⟨b, o + k * 2, none⟩ = some (.int .i64 l[k].1) ∧ w.cell? ⟨b, o + k * 2 + 1, none⟩ = some (.int .i64 l[k].2) := by
  obtain ⟨b, o, e, hb, hc⟩ := h.2 (by omega)
  have hg : ∀ j, j < 2 → (pairC l)[k * 2 + j]? = ([.int .i64 (l[k].1 : Int), .int .i64 (l[k].2 : Int)] : List Value)[j]? := fun j hj => by
    have := flatten_get (c := 2) (l.map fun p => ([.int .i64 (p.1 : Int), .int .i64 (p.2 : Int)] : List Value)) (fun x hx => by obtain ⟨p, _, rfl⟩ := List.mem_map.1 hx; rfl) k j hj
    rw [← List.flatMap_def] at this
    unfold pairC
    rw [this]; simp [hk]
  refine ⟨b, o, e, hb, ?_, ?_⟩
  · have := hc (k * 2 + 0) (by omega); rw [hg 0 (by omega)] at this; exact this
  · have := hc (k * 2 + 1) (by omega); rw [hg 1 (by omega)] at this; rw [Nat.add_assoc]; exact this
end Go.Proofs.Ytlebhalaodmkhaa
