/- Trees: where a name stands. -/
import Derived.Test.YtceapefjdiphpaaTreec
namespace Go.Proofs.Ytceapefjdiphpaa
open Go.RowKit

/-- the place of the first file of this name; -1 if there is none -/
def findV (fs : List FileV) (s : ByteArray) : Int := if fs.findIdx (fun f => decide (f.name = s)) < fs.length then ((fs.findIdx (fun f => decide (f.name = s)) : Nat) : Int) else -1
theorem findV_at {fs : List FileV} {s : ByteArray} {k : Nat} (hk : k < fs.length) (he : fs[k].name = s) (hb : ∀ j (hj : j < k), (fs[j]'(by omega)).name ≠ s) : findV fs s = k := by
  have h : fs.findIdx (fun f => decide (f.name = s)) = k := (List.findIdx_eq hk).2 ⟨decide_eq_true he, fun j hj => decide_eq_false (hb j hj)⟩
  unfold findV; rw [h, if_pos hk]
theorem findV_none {fs : List FileV} {s : ByteArray} (hb : ∀ j (hj : j < fs.length), fs[j].name ≠ s) : findV fs s = -1 := by
  have h : fs.findIdx (fun f => decide (f.name = s)) = fs.length := List.findIdx_eq_length.2 fun x hx => by
    obtain ⟨j, hj, rfl⟩ := List.getElem_of_mem hx
    exact decide_eq_false (hb j hj)
  unfold findV; rw [h, if_neg (by omega)]

set_option maxRecDepth 100000 in
set_option maxHeartbeats 1000000 in
theorem rfind_any (fs : List FileV) (s : ByteArray) (w : World) (A : Option Addr) (n c : Nat) (hn : fs.length = n) (hm : n ≤ 40) (h : TreeOk w w.heap.size A fs) :
    Calls Try.prog 46 #[.slice A n c, .string s] w (RetB w (.int .i64 (findV fs s))) := by
  have HL := Lib.hid hn
  have H := Lib.hid h
  clear h hn
  go_enter Try.func46, Try.ntmps46
  go_wp2_with fail
  go_loop [5] (fun i => ∃ k : Nat, k ≤ n ∧ i = .int .i64 k ∧ Hid (∀ j (hj : j < fs.length), j < k → fs[j].name ≠ s)) (fun i => n - (intOf i).toNat)
  case atStart => exact ⟨0, by omega, rfl, fun j _ hj => by omega⟩
  case round =>
    obtain ⟨k, hk, rfl, T⟩ := hrel
    by_cases hlt : k < n
    · obtain ⟨b, o, rfl, hb, F1⟩ := H.out.file (k := k) (by rw [HL.out]; exact hlt)
      have c0 := F1.c0
      have Q1 : Hid (∀ hk' : k < fs.length, (fs[k]'hk') = fs[k]'(by rw [HL.out]; exact hlt)) := fun _ => rfl
      generalize fs[k]'(by rw [HL.out]; exact hlt) = f at *
      clear F1
      have hlk : (k : Int) < (n : Int) := by omega
      have hk0 : (0 : Int) ≤ (k : Int) := by omega
      by_cases he : f.name = s
      · have N : Hid (findV fs s = k) := findV_at (by rw [HL.out]; exact hlt) (by rw [Q1.out]; exact he) (fun j hj => T.out j (by have := HL.out; omega) hj)
        subst he
        clear Q1 T
        go_wp2_with fail
        go_ret
        exact ⟨ret_int N.out.symm, Below.refl _ _⟩
      · have d := str_ne he
        have N : Hid (∀ j (hj : j < fs.length), j < k + 1 → fs[j].name ≠ s) := fun j hj hjk => by
          rcases Nat.lt_or_ge j k with h | h
          · exact T.out j hj h
          · obtain rfl : j = k := by omega
            rw [Q1.out]; exact he
        clear Q1 T he
        go_wp2_with fail
        go_round
        case rel => exact ⟨k + 1, by omega, by go_num, N⟩
        case measure => simp [intOf]; omega
    · have N : Hid (findV fs s = -1) := findV_none fun j hj => T.out j hj (by have := HL.out; omega)
      have hk' : k = n := by omega
      subst hk'
      clear T
      go_wp2
      go_ret
      exact ⟨ret_int N.out.symm, Below.refl _ _⟩

set_option maxRecDepth 100000 in
set_option maxHeartbeats 1000000 in
theorem find1_any (f : FileV) (s : ByteArray) (w : World) (g : Nat) (hg : w.cell? ⟨g, 0, none⟩ = some (.string s)) (hlt : g < w.heap.size) :
    Calls Try.prog 64 #[.agg #[.string f.name, .slice f.A f.also.length f.c, .slice f.L f.lines.length f.d], .pointer (some ⟨g, 0, none⟩)] w (RetB w (.bool (decide (f.name = s)))) := by
  have r0 : ∀ o : Obj, (w.alloc o).cell? ⟨g, 0, none⟩ = some (.string s) := fun o => by
    have := (below_new w o).cell (p := ⟨g, 0, none⟩) hlt
    rw [this]; exact hg
  have B0 : Hid (Below w.heap.size w (w.alloc (.cells #[.string f.name, .slice f.A f.also.length f.c, .slice f.L f.lines.length f.d] 68))) := below_new _ _
  by_cases he : f.name = s
  · have N : Hid (decide (f.name = s) = true) := decide_eq_true he
    subst he
    go_enter Try.func64, Try.ntmps64
    go_wp2
    go_ret
    exact ⟨ret_bool N.out.symm, B0.out⟩
  · have N : Hid (decide (f.name = s) = false) := decide_eq_false he
    have d := str_ne he
    clear he
    go_enter Try.func64, Try.ntmps64
    go_wp2
    go_ret
    exact ⟨ret_bool N.out.symm, B0.out⟩

set_option maxRecDepth 100000 in
set_option maxHeartbeats 2000000 in
theorem indexFunc_any (fs : List FileV) (s : ByteArray) (w : World) (A : Option Addr) (n c g : Nat) (hn : fs.length = n) (hm : n ≤ 40) (h : TreeOk w w.heap.size A fs) (hg : w.cell? ⟨g, 0, none⟩ = some (.string s)) (hlt : g < w.heap.size) :
    Calls Try.prog 63 #[.slice A n c, .func (.func 64) #[] #[.pointer (some ⟨g, 0, none⟩)]] w (RetB w (.int .i64 (findV fs s))) := by
  have HL := Lib.hid hn
  have H := Lib.hid h
  have HG := Lib.hid hg
  have HG2 := Lib.hid hlt
  clear h hn hg hlt
  go_enter Try.func63, Try.ntmps63
  go_wp2_with fail
  go_loopw [8] (fun i wr => ∃ k : Nat, k ≤ n ∧ i = .int .i64 k ∧ Hid (∀ j (hj : j < fs.length), j < k → fs[j].name ≠ s) ∧ Below w.heap.size w wr) (fun i _ => n - (intOf i).toNat)
  case atStart => exact ⟨0, by omega, rfl, fun j _ hj => by omega, Below.refl _ _⟩
  case round =>
    obtain ⟨k, hk, rfl, T, hbl⟩ := hrel
    have B := Lib.hid hbl
    clear hbl
    by_cases hlt : k < n
    · obtain ⟨b, o, rfl, hb, F1⟩ := H.out.at_ (k := k) (by rw [HL.out]; exact hlt)
      have F3 := fileAt_of (rangeAt_below F1 B.out hb)
      have Q1 : Hid (∀ hk' : k < fs.length, (fs[k]'hk') = fs[k]'(by rw [HL.out]; exact hlt)) := fun _ => rfl
      generalize fs[k]'(by rw [HL.out]; exact hlt) = f at *
      have HC := Lib.hid (find1_any f s wr g (by rw [B.out.cell (p := ⟨g, 0, none⟩) HG2.out]; exact HG.out) (Nat.lt_of_lt_of_le HG2.out B.out.size))
      obtain ⟨c0, c1, c2⟩ := F3
      clear F1
      have hlk : (k : Int) < (n : Int) := by omega
      have hk0 : (0 : Int) ≤ (k : Int) := by omega
      by_cases he : f.name = s
      · have N : Hid (findV fs s = k) := findV_at (by rw [HL.out]; exact hlt) (by rw [Q1.out]; exact he) (fun j hj => T.out j (by have := HL.out; omega) hj)
        rw [decide_eq_true he] at HC
        clear Q1 T he
        go_wp2_with fail
        refine HC.out.mono ?_
        rintro e w3 ⟨rfl, b3⟩
        have B3 := Lib.hid (B.out.trans (b3.mono B.out.size))
        clear b3 HC c0 c1 c2
        go_wp2_with fail
        go_ret
        exact ⟨ret_int N.out.symm, B3.out⟩
      · have N : Hid (∀ j (hj : j < fs.length), j < k + 1 → fs[j].name ≠ s) := fun j hj hjk => by
          rcases Nat.lt_or_ge j k with h | h
          · exact T.out j hj h
          · obtain rfl : j = k := by omega
            rw [Q1.out]; exact he
        rw [decide_eq_false he] at HC
        clear Q1 T he
        go_wp2_with fail
        refine HC.out.mono ?_
        rintro e w3 ⟨rfl, b3⟩
        have B3 := Lib.hid (B.out.trans (b3.mono B.out.size))
        clear b3 HC c0 c1 c2
        go_wp2_with fail
        go_roundw
        case rel => exact ⟨k + 1, by omega, by go_num, N, B3.out⟩
        case measure => simp [intOf]; omega
    · have N : Hid (findV fs s = -1) := findV_none fun j hj => T.out j hj (by have := HL.out; omega)
      have hk' : k = n := by omega
      subst hk'
      clear T
      go_wp2
      go_ret
      exact ⟨ret_int N.out.symm, B.out⟩

set_option maxRecDepth 100000 in
set_option maxHeartbeats 1000000 in
theorem find_any (fs : List FileV) (s : ByteArray) (w : World) (A : Option Addr) (n c : Nat) (hn : fs.length = n) (hm : n ≤ 40) (h : TreeOk w w.heap.size A fs) :
    Calls Try.prog 45 #[.slice A n c, .string s] w (RetB w (.int .i64 (findV fs s))) := by
  have B0 : Hid (Below w.heap.size w (w.alloc (.cells #[.string s] 9))) := below_new _ _
  have K1 : Hid (Blk (w.alloc (.cells #[.string s] 9)) w.heap.size 9 #[.string s]) := Blk.new _ _ _
  have HI := Lib.hid (indexFunc_any fs s (w.alloc (.cells #[.string s] 9)) A n c w.heap.size hn hm (h.up B0.out) (K1.out.cell 0) K1.out.lt)
  clear h hn hm
  generalize findV fs s = r at *
  go_enter Try.func45, Try.ntmps45
  go_wp2_with fail
  refine HI.out.mono ?_
  rintro e w1 ⟨rfl, b1⟩
  have B1 := Lib.hid (ext_trans B0.out b1)
  clear b1
  go_wp2
  go_ret
  exact ⟨rfl, B1.out⟩
end Go.Proofs.Ytceapefjdiphpaa
