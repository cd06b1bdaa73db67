/- Vectors: all patches; what has, what comes next. -/
import Derived.Test.YtceapefjdiphpaaVecb
import Derived.Test.YtceapefjdiphpaaPush
namespace Go.Proofs.Ytceapefjdiphpaa
open Go.RowKit

/-- a patch's name as cells -/
def pidC (p : Int × Int) : List Value := [.int .u8 p.1, .int .u16 p.2]
def rowTo (i : Nat) (j : Nat) : List (Int × Int) := (List.range j).map fun (s : Nat) => ((i : Int) + 1, (s : Int) + 1)
def allTo (a : List Int) (k : Nat) : List (Int × Int) := (List.range k).flatMap fun i => rowTo i (a.getD i 0).toNat
theorem allTo_succ (a : List Int) (k : Nat) : allTo a (k + 1) = allTo a k ++ rowTo k (a.getD k 0).toNat := by
  simp [allTo, List.range_succ]
theorem rowTo_succ (i j : Nat) : rowTo i (j + 1) = rowTo i j ++ [((i : Int) + 1, (j : Int) + 1)] := by simp [rowTo, List.range_succ]
theorem rowTo_len (i j : Nat) : (rowTo i j).length = j := by simp [rowTo]
theorem allTo_len {a : List Int} (ha : VecOk a) : ∀ k, k ≤ 64 → (allTo a k).length ≤ 65535 * k
  | 0, _ => by simp [allTo]
  | k + 1, h => by
    have := allTo_len ha k (by omega)
    have hg := ha.get k (by omega)
    rw [allTo_succ, List.length_append, rowTo_len]; omega
def pidCs (l : List (Int × Int)) : List Value := l.flatMap pidC
theorem pidCs_append (l m : List (Int × Int)) : pidCs (l ++ m) = pidCs l ++ pidCs m := by simp [pidCs]
theorem pidCs_one (p : Int × Int) : pidCs [p] = [.int .u8 p.1, .int .u16 p.2] := by simp [pidCs, pidC]
theorem pidCs_len (l : List (Int × Int)) : (pidCs l).length = l.length * 2 := by
  induction l with
  | nil => rfl
  | cons p l ih => rw [show p :: l = [p] ++ l from rfl, pidCs_append, pidCs_one, List.length_append, ih]; simp; omega
theorem pidSl : SlT Try.prog 29 38 2 4 := slT_of (z := .agg #[.int .u8 0, .int .u16 0]) (by kernel_rfl) (by kernel_rfl) rfl (by omega)

theorem own_step {w : World} {base : Nat} {v : Value} {a : List Int} {k j : Nat} (h : w.ownsRow base 38 2 v ((allTo a k ++ rowTo k j).length + 1) (pidCs (allTo a k ++ rowTo k j) ++ [.int .u8 ((k : Int) + 1), .int .u16 ((j : Int) + 1)])) :
    w.ownsRow base 38 2 v (allTo a k ++ rowTo k (j + 1)).length (pidCs (allTo a k ++ rowTo k (j + 1))) := by
  rw [rowTo_succ, ← List.append_assoc, List.length_append (bs := [_]), pidCs_append, pidCs_one]; exact h

set_option maxRecDepth 100000 in
set_option maxHeartbeats 1000000 in
theorem all_any (a : List Int) (ha : VecOk a) (w : World) : Calls Try.prog 15 #[.agg (vecA a)] w (RetSl w 2 (allTo a 64).length (pidCs (allTo a 64))) := by
  have HA := Lib.hid ha
  have hs1 : Hid ((vecA a).size = 64) := by rw [Hid, vecA_size]; exact ha.len
  have B0 : Hid (Below w.heap.size w (w.alloc (.cells (vecA a) 24))) := (Below.refl _ _).alloc (Nat.le_refl _) _
  have K1 : Hid (Blk (w.alloc (.cells (vecA a) 24)) w.heap.size 24 (vecA a)) := Blk.new _ _ _
  clear ha
  go_enter Try.func15, Try.ntmps15
  go_wp2_with (refine wpList_load_row rfl 24 _ (by rfl) w.heap.size (by rfl) _ _ _ _ K1.out under64 rfl (by rw [hs1.out]; exact info64) ?_)
  generalize (w.alloc (.cells (vecA a) 24)) = w0 at *
  go_loopw [3, 8] (fun v i wr => ∃ k : Nat, k ≤ 64 ∧ i = .int .i64 k ∧ wr.ownsRow w0.heap.size 38 2 v (allTo a k).length (pidCs (allTo a k)) ∧ Below w0.heap.size w0 wr) (fun _ i _ => 64 - (intOf i).toNat)
  case atStart => exact ⟨0, by omega, rfl, World.ownsRow_nil _ _ _ _, Below.refl _ _⟩
  case round =>
    obtain ⟨k, hk, rfl, hown, hbl⟩ := hrel
    have O := Lib.hid hown
    have B := Lib.hid hbl
    clear hown hbl
    have hll := allTo_len HA.out k hk
    by_cases hlt : k < 64
    · have hix := index_vec a HA.out k hlt
      obtain ⟨x0, x1⟩ := HA.out.get k hlt
      have S := Lib.hid (allTo_succ a k)
      obtain ⟨m, hm⟩ : ∃ m : Nat, a.getD k 0 = m := ⟨(a.getD k 0).toNat, by omega⟩
      rw [hm] at hix x0 x1
      rw [hm, Int.toNat_natCast] at S
      clear hm
      have hb0 : (k : Int) < 64 := by omega
      go_wp2_with fail
      obtain ⟨wo, hwo⟩ : ∃ wo : World, wo = wr := ⟨_, rfl⟩
      rw [← hwo] at O B
      rw [← hwo]
      clear hwo
      go_loopw [3, 14] (fun v i wr => ∃ j : Nat, j ≤ m ∧ i = .int .i64 j ∧ wr.ownsRow w0.heap.size 38 2 v (allTo a k ++ rowTo k j).length (pidCs (allTo a k ++ rowTo k j)) ∧ Below w0.heap.size w0 wr) (fun _ i _ => m - (intOf i).toNat)
      case atStart => exact ⟨0, by omega, rfl, by simpa [rowTo] using O.out, B.out⟩
      case round =>
        clear O B
        obtain ⟨j, hj, rfl, hown, hbl⟩ := hrel
        have O := Lib.hid hown
        have B := Lib.hid hbl
        clear hown hbl
        by_cases hjl : j < m
        · have hbj : (j : Int) < (m : Int) := by omega
          have hlen : (allTo a k ++ rowTo k j).length ≤ 5000000 := by rw [List.length_append, rowTo_len]; omega
          go_wp2_with (at_builtin; refine wpList_push pidSl O.out [.int .u8 ((k : Int) + 1), .int .u16 ((j : Int) + 1)] rfl (by simp [Value.oneCell']) B.out.size (by omega) (by unfold maxLen; omega) (by rfl) (by rfl) (by rfl) ?_; intro v1 w1 own1 bel1)
          go_roundw
          case rel => exact ⟨j + 1, by omega, by go_num, own_step own1, B.out.trans bel1⟩
          case measure => simp [intOf]; omega
        · have hj' : j = m := by omega
          subst hj'
          go_wp2
          go_roundw
          case rel => exact ⟨k + 1, by omega, by go_num, by rw [S.out]; exact O.out, B.out⟩
          case measure => simp [intOf]; omega
    · have hk' : k = 64 := by omega
      subst hk'
      obtain ⟨A, c, hv, hnc, hsl⟩ := Sl.of_own O.out
      subst hv
      go_wp2
      go_ret
      exact ⟨A, c, rfl, hnc, hsl, B0.out.trans (B.out.mono B0.out.size)⟩
end Go.Proofs.Ytceapefjdiphpaa
