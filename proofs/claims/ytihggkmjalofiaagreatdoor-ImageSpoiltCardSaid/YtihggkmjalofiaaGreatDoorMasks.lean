/- Texts of general use, one behind another. -/
import Derived.Test.YtihggkmjalofiaaGreatDoorPools
import Derived.Test.YtihggkmjalofiaaGreatDoorGen
import Derived.Test.YtihggkmjalofiaaGreatDoorIdxw

/- Sets of small numbers, as bits of words: room, whether one is there: walked. -/
namespace Go.Proofs.YtihggkmjalofiaaGreatDoor
open Go.RowKit

/-- words enough for n numbers -/
structure WsOk (n : Nat) (ws : List Nat) : Prop where
  len : ws.length = (n + 63) / 64
  lt : ∀ x ∈ ws, x < 18446744073709551616
def encW (ws : List Nat) : List Value := ws.map fun (x : Nat) => Value.int .u64 (x : Int)
/-- a set as it lies: its struct's block, and its words' -/
structure MaskAt (w : World) (g gw : Nat) (n : Nat) (ws : List Nat) : Prop where
  ok : WsOk n ws
  few : n ≤ 65536
  blk : Blk w g 445 #[.int .i64 (n : Int), .slice (some ⟨gw, 0, none⟩) ws.length ws.length]
  own : w.ownsRow 0 76 1 (.slice (some ⟨gw, 0, none⟩) ws.length ws.length) ws.length (encW ws)
section
variable {w w' : World} {g gw n : Nat} {ws : List Nat}
theorem MaskAt.lt (h : MaskAt w g gw n ws) : g < w.heap.size ∧ gw < w.heap.size := ⟨h.blk.lt, (h.own.lt gw rfl).2⟩
theorem MaskAt.ne (h : MaskAt w g gw n ws) : gw ≠ g := own_ne_blk h.own h.blk (by decide) rfl
theorem MaskAt.keep (h : MaskAt w g gw n ws) (h1 : w'.heap[g]? = w.heap[g]?) (h2 : w'.heap[gw]? = w.heap[gw]?) : MaskAt w' g gw n ws :=
  ⟨h.ok, h.few, h.blk.keep h1, own_keepF h.own fun k e => by
    obtain rfl : gw = k := by simpa [Value.ownBlock] using e
    exact h2⟩
theorem MaskAt.ext (h : MaskAt w g gw n ws) (hb : Below w.heap.size w w') : MaskAt w' g gw n ws := h.keep (hb.block g h.lt.1) (hb.block gw h.lt.2)
theorem MaskAt.cell (h : MaskAt w g gw n ws) {k : Nat} (hk : k < ws.length) : w.cell? ⟨gw, k, none⟩ = some (.int .u64 ((ws.getD k 0 : Nat) : Int)) := by
  rw [h.own.cellAt k (by omega)]
  unfold encW
  rw [List.getElem?_map, List.getElem?_eq_getElem hk, List.getD_eq_getElem?_getD, List.getElem?_eq_getElem hk]; rfl
theorem WsOk.getD_lt (h : WsOk n ws) (i : Nat) : ws.getD i 0 < 18446744073709551616 := by
  rw [List.getD_eq_getElem?_getD]
  rcases Nat.lt_or_ge i ws.length with h1 | h1
  · rw [List.getElem?_eq_getElem h1]; exact h.lt _ (List.getElem_mem h1)
  · rw [List.getElem?_eq_none h1]; decide
end
/-- is a number there? -/
def hasM (n : Nat) (ws : List Nat) (i : Int) : Bool := (decide (0 ≤ i) && decide (i < (n : Int))) && bitAt ws i.toNat
set_option maxRecDepth 100000 in
set_option maxHeartbeats 1000000 in
theorem room7_any {w : World} {g gw n : Nat} {ws : List Nat} (h : MaskAt w g gw n ws) : Calls Tryz.prog 362 #[.pointer (some ⟨g, 0, none⟩)] w (Ret w (.int .i64 (n : Int))) := by
  have y0 : w.cell? ⟨g, 0, none⟩ = some (.int .i64 (n : Int)) := h.blk.cell 0
  clear h
  go_enter Tryz.func362, Tryz.ntmps362
  go_wp2
  go_ret
  exact ⟨rfl, rfl⟩
set_option maxRecDepth 100000 in
set_option maxHeartbeats 1000000 in
theorem room7_nil (w : World) : Calls Tryz.prog 362 #[.pointer none] w (Ret w (.int .i64 0)) := by
  go_enter Tryz.func362, Tryz.ntmps362
  go_wp2
  go_ret
  exact ⟨rfl, rfl⟩
set_option maxRecDepth 100000 in
set_option maxHeartbeats 1000000 in
theorem fits7_any {w : World} {g gw n : Nat} {ws : List Nat} (h : MaskAt w g gw n ws) (i : Int) : Calls Tryz.prog 361 #[.pointer (some ⟨g, 0, none⟩), .int .i64 i] w (Ret w (.bool (decide (0 ≤ i) && decide (i < (n : Int))))) := by
  have HR := Lib.hid (room7_any h)
  clear h
  by_cases h0 : 0 ≤ i
  · rw [decide_eq_true h0, Bool.true_and]
    go_enter Tryz.func361, Tryz.ntmps361
    go_wp2_with fail
    refine HR.out.mono ?_
    rintro e w1 ⟨rfl, rfl⟩
    by_cases h1 : i < (n : Int)
    · have e1 := decide_eq_true h1
      go_wp2
      go_ret
      exact ⟨ret_bool e1.symm, rfl⟩
    · have e1 := decide_eq_false h1
      go_wp2
      go_ret
      exact ⟨ret_bool e1.symm, rfl⟩
  · rw [decide_eq_false h0, Bool.false_and]
    go_enter Tryz.func361, Tryz.ntmps361
    go_wp2
    go_ret
    exact ⟨rfl, rfl⟩
set_option maxRecDepth 100000 in
set_option maxHeartbeats 1000000 in
theorem fits7_nil (i : Int) (w : World) : Calls Tryz.prog 361 #[.pointer none, .int .i64 i] w (Ret w (.bool false)) := by
  by_cases h0 : 0 ≤ i
  · have h1 : ¬ i < 0 := by omega
    have e1 := decide_eq_false h1
    go_enter Tryz.func361, Tryz.ntmps361
    go_wp2_with fail
    refine (room7_nil w).mono ?_
    rintro e w1 ⟨rfl, rfl⟩
    go_wp2
    go_ret
    exact ⟨rfl, rfl⟩
  · go_enter Tryz.func361, Tryz.ntmps361
    go_wp2
    go_ret
    exact ⟨rfl, rfl⟩
set_option maxRecDepth 100000 in
set_option maxHeartbeats 1000000 in
theorem has7_nil (i : Int) (w : World) : Calls Tryz.prog 309 #[.pointer none, .int .i64 i] w (Ret w (.bool false)) := by
  go_enter Tryz.func309, Tryz.ntmps309
  go_wp2_with fail
  refine (fits7_nil i w).mono ?_
  rintro e w1 ⟨rfl, rfl⟩
  go_wp2
  go_ret
  exact ⟨rfl, rfl⟩
theorem shrI6 (q : Nat) (w : World) : (binOp .shr 3 (.int .i64 (q : Int)) (.int .u64 6)).run Tryz.prog w = .ok (.int .i64 ((q / 64 : Nat) : Int)) w := by
  have e : ((q / 64 : Nat) : Int) = (q : Int) / 64 := by omega
  rw [e]
  simp [go_sem]
theorem andI63 (n : Int) : bits .and .i64 n 63 = n % 64 := by
  have h63 : (BitVec.ofInt 64 63).toNat = 2 ^ 6 - 1 := by decide
  have key : (BitVec.ofInt 64 n &&& BitVec.ofInt 64 63).toNat = (n % ((2 ^ 64 : Nat) : Int)).toNat % 2 ^ 6 := by
    rw [BitVec.toNat_and, BitVec.toNat_ofInt, h63, Nat.and_two_pow_sub_one_eq_mod]
  show IntKind.i64.wrap ((BitVec.ofInt 64 n &&& BitVec.ofInt 64 63).toNat : Nat) = n % 64
  rw [key, IntKind.wrap_i64]
  omega
theorem and_runI (q : Nat) (w : World) : (binOp .and 3 (.int .i64 (q : Int)) (.int .i64 63)).run Tryz.prog w = .ok (.int .i64 ((q % 64 : Nat) : Int)) w := by
  have e : ((q % 64 : Nat) : Int) = (q : Int) % 64 := by omega
  rw [e, ← andI63]
  simp [go_sem]
theorem shl_runU {c : Nat} (hc : c < 64) (w : World) : (binOp .shl 76 (.int .u64 1) (.int .u64 (c : Int))).run Tryz.prog w = .ok (.int .u64 ((2 ^ c : Nat) : Int)) w := by
  rw [← wrap_pow hc]
  simp [go_sem]
theorem shr_runU (y : Nat) {c : Nat} (hc : c < 64) (w : World) : (binOp .shr 76 (.int .u64 (y : Int)) (.int .u64 (c : Int))).run Tryz.prog w = .ok (.int .u64 ((y / 2 ^ c : Nat) : Int)) w := by
  have e : ((y / 2 ^ c : Nat) : Int) = (y : Int) / 2 ^ c := by simp
  rw [e]
  simp [go_sem]
theorem bit_and1 (y c : Nat) : y / 2 ^ c % 2 = (y.testBit c).toNat := by
  rw [Nat.testBit_eq_decide_div_mod_eq]
  have := Nat.mod_two_eq_zero_or_one (y / 2 ^ c)
  rcases this with h | h <;> rw [h] <;> rfl
/-- the numbers that a place is told by -/
theorem place7 {n : Nat} {ws : List Nat} (ok : WsOk n ws) {q : Nat} (hq : q < n) : ∃ d c y m : Nat, (q : Int) / 64 = (d : Int) ∧ bits .and .i64 (q : Int) 63 = (c : Int) ∧ c < 64 ∧ d < ws.length ∧ y = ws.getD d 0 ∧ y < 18446744073709551616 ∧ (y : Int) / 2 ^ c = (m : Int) ∧ bits .and .u64 (m : Int) 1 = (((bitAt ws q).toNat : Nat) : Int) ∧ q / 64 = d ∧ q % 64 = c := by
  have hy := ok.getD_lt (q / 64)
  have hl := ok.len
  refine ⟨q / 64, q % 64, ws.getD (q / 64) 0, ws.getD (q / 64) 0 / 2 ^ (q % 64), by omega, ?_, by omega, by omega, rfl, hy, ?_, ?_, rfl, rfl⟩
  · rw [andI63]; omega
  · simp
  · have h := u64_and_nat (ws.getD (q / 64) 0 / 2 ^ (q % 64)) 1 (Nat.lt_of_le_of_lt (Nat.div_le_self _ _) hy) (by omega)
    rw [show ((1 : Nat) : Int) = 1 from rfl, Nat.and_one_is_mod, bit_and1] at h
    exact h
set_option maxRecDepth 100000 in
set_option maxHeartbeats 1000000 in
theorem has7_any {w : World} {g gw n : Nat} {ws : List Nat} (h : MaskAt w g gw n ws) (i : Int) : Calls Tryz.prog 309 #[.pointer (some ⟨g, 0, none⟩), .int .i64 i] w (Ret w (.bool (hasM n ws i))) := by
  have HF := Lib.hid (fits7_any h i)
  by_cases hi : 0 ≤ i ∧ i < (n : Int)
  · obtain ⟨q, rfl⟩ : ∃ q : Nat, i = (q : Int) := ⟨i.toNat, by omega⟩
    have hq : q < n := by omega
    obtain ⟨d, c, y, m, r1, r2, hc, hd, hy, hy2, r3, r4, e1, e2⟩ := place7 h.ok hq
    have hcell : w.cell? ⟨gw, d, none⟩ = some (.int .u64 (y : Int)) := by rw [hy]; exact h.cell hd
    have y1 : w.cell? ⟨g, 1, none⟩ = some (.slice (some ⟨gw, 0, none⟩) ws.length ws.length) := h.blk.cell 1
    have N : Hid (hasM n ws (q : Int) = bitAt ws q) := by
      unfold hasM
      rw [Hid, decide_eq_true hi.1, decide_eq_true hi.2, Int.toNat_natCast]; rfl
    rw [decide_eq_true hi.1, decide_eq_true hi.2] at HF
    have hd0 : (0 : Int) ≤ (d : Int) := by omega
    have hd1 : (d : Int) < (ws.length : Int) := by omega
    have c0 : (0 : Int) ≤ (c : Int) := by omega
    have c1 : (c : Int) < 64 := by omega
    clear hi hq hy e1 e2 h hd
    cases hb : bitAt ws q
    · rw [hb] at r4 N
      simp at r4
      go_enter Tryz.func309, Tryz.ntmps309
      go_wp2_with fail
      refine HF.out.mono ?_
      rintro e w1 ⟨rfl, rfl⟩
      go_wp2
      go_ret
      exact ⟨ret_bool N.out.symm, rfl⟩
    · rw [hb] at r4 N
      simp at r4
      go_enter Tryz.func309, Tryz.ntmps309
      go_wp2_with fail
      refine HF.out.mono ?_
      rintro e w1 ⟨rfl, rfl⟩
      go_wp2
      go_ret
      exact ⟨ret_bool N.out.symm, rfl⟩
  · have e : (decide (0 ≤ i) && decide (i < (n : Int))) = false := by
      rw [Bool.and_eq_false_iff, decide_eq_false_iff_not, decide_eq_false_iff_not]; omega
    have N : Hid (hasM n ws i = false) := by unfold hasM; rw [Hid, e]; rfl
    rw [e] at HF
    clear e hi
    go_enter Tryz.func309, Tryz.ntmps309
    go_wp2_with fail
    refine HF.out.mono ?_
    rintro e w1 ⟨rfl, rfl⟩
    go_wp2
    go_ret
    exact ⟨ret_bool N.out.symm, rfl⟩
theorem putBit_ws {n : Nat} {ws : List Nat} (h : WsOk n ws) {q : Nat} : WsOk n (putBit ws q) := by
  refine ⟨by unfold putBit; rw [List.length_set]; exact h.len, fun x hx => ?_⟩
  unfold putBit at hx
  rcases List.mem_or_eq_of_mem_set hx with hx | rfl
  · exact h.lt x hx
  · exact Nat.or_lt_two_pow (n := 64) (h.getD_lt _) (Nat.pow_lt_pow_right (by omega) (by omega))
theorem bit_putW {n : Nat} {ws : List Nat} (h : WsOk n ws) {q : Nat} (hq : q < n) (r : Nat) : bitAt (putBit ws q) r = (bitAt ws r || decide (q = r)) := by
  have hl : q / 64 < ws.length := by rw [h.len]; omega
  unfold bitAt putBit
  by_cases e : q / 64 = r / 64
  · rw [← e, getD_set_eq' hl, Nat.testBit_or, Nat.testBit_two_pow]
    congr 1
    rw [decide_eq_decide]; omega
  · rw [getD_set_ne' e, decide_eq_false (by omega), Bool.or_false]
theorem putBit_len (ws : List Nat) (q : Nat) : (putBit ws q).length = ws.length := by unfold putBit; rw [List.length_set]
theorem MaskAt.put {w : World} {g gw n : Nat} {ws : List Nat} (h : MaskAt w g gw n ws) (q : Nat) : MaskAt (w.setCell ⟨gw, q / 64, none⟩ (.int .u64 ((ws.getD (q / 64) 0 ||| 2 ^ (q % 64) : Nat) : Int))) g gw n (putBit ws q) := by
  refine ⟨putBit_ws h.ok, h.few, ?_, ?_⟩
  · rw [putBit_len]
    exact h.blk.far (p := ⟨gw, q / 64, none⟩) (fun e => h.ne (show gw = g from (show g = gw from e).symm)) _
  · rw [putBit_len]
    have e : encW (putBit ws q) = (encW ws).set (q / 64) (.int .u64 ((ws.getD (q / 64) 0 ||| 2 ^ (q % 64) : Nat) : Int)) := by
      unfold encW putBit; rw [List.map_set]
    rw [e]
    exact (h.own.stored (q / 64) _).1
def newM (n : Nat) (ws : List Nat) (i : Int) : Bool := (decide (0 ≤ i) && decide (i < (n : Int))) && !bitAt ws i.toNat
def putM (n : Nat) (ws : List Nat) (i : Int) : List Nat := if newM n ws i = true then putBit ws i.toNat else ws
def RetPut7 (w : World) (g gw n : Nat) (ws : List Nat) (i : Int) (e : Ending) (w' : World) : Prop := e = .returned (.bool (newM n ws i)) ∧ MaskAt w' g gw n (putM n ws i) ∧ Kept (fun k => k = gw) w w'
set_option maxRecDepth 100000 in
set_option maxHeartbeats 2000000 in
theorem put7_any {w : World} {g gw n : Nat} {ws : List Nat} (h : MaskAt w g gw n ws) (i : Int) : Calls Tryz.prog 308 #[.pointer (some ⟨g, 0, none⟩), .int .i64 i] w (RetPut7 w g gw n ws i) := by
  have HF := Lib.hid (fits7_any h i)
  have HH := Lib.hid (has7_any h i)
  have HM := Lib.hid h
  by_cases hi : 0 ≤ i ∧ i < (n : Int)
  · obtain ⟨q, rfl⟩ : ∃ q : Nat, i = (q : Int) := ⟨i.toNat, by omega⟩
    have hq : q < n := by omega
    obtain ⟨d, c, y, m, r1, r2, hc, hd, hy, hy2, r3, r4, e1, e2⟩ := place7 h.ok hq
    have hcell : w.cell? ⟨gw, d, none⟩ = some (.int .u64 (y : Int)) := by rw [hy]; exact h.cell hd
    have hfr : w.frozen? ⟨gw, d, none⟩ = false := h.own.frozenAt _
    have y1 : w.cell? ⟨g, 1, none⟩ = some (.slice (some ⟨gw, 0, none⟩) ws.length ws.length) := h.blk.cell 1
    have N : hasM n ws (q : Int) = bitAt ws q := by
      unfold hasM
      rw [decide_eq_true hi.1, decide_eq_true hi.2, Int.toNat_natCast]; rfl
    have N2 : newM n ws (q : Int) = !bitAt ws q := by
      unfold newM
      rw [decide_eq_true hi.1, decide_eq_true hi.2, Int.toNat_natCast]; rfl
    rw [decide_eq_true hi.1, decide_eq_true hi.2] at HF
    rw [N] at HH
    have hd0 : (0 : Int) ≤ (d : Int) := by omega
    have hd1 : (d : Int) < (ws.length : Int) := by omega
    have c0 : (0 : Int) ≤ (c : Int) := by omega
    have c1 : (c : Int) < 64 := by omega
    have E := Lib.hid e1
    have E2 := Lib.hid e2
    have HY := Lib.hid hy
    have HD := Lib.hid hd
    clear hi hy e1 e2 h hd N
    cases hb : bitAt ws q
    · rw [hb] at HH N2
      have N2 := Lib.hid N2
      have S1 := Lib.hid (fun u => shl_runU hc u)
      have S2 := Lib.hid (fun u => or_run hy2 hc u)
      have ST := Lib.hid (store64_run gw d (y ||| 2 ^ c) w hcell hfr)
      have hq' := Lib.hid hq
      clear hb r4 r3 hq
      go_enter Tryz.func308, Tryz.ntmps308
      go_wp2_with fail
      refine HF.out.mono ?_
      rintro e w1 ⟨rfl, rfl⟩
      go_wp2_with fail
      refine HH.out.mono ?_
      rintro e w1 ⟨rfl, rfl⟩
      go_wp2_with (first
        | ((with_reducible refine wpList_comp ?_ ?_ ?_ (S1.out _) ?_); rfl; rfl; rfl)
        | ((with_reducible refine wpList_comp ?_ ?_ ?_ (S2.out _) ?_); rfl; rfl; rfl)
        | ((with_reducible refine wpList_st ?_ ?_ ST.out ?_); rfl; rfl))
      go_ret
      have P := HM.out.put q
      rw [E.out, E2.out, ← HY.out] at P
      exact ⟨ret_bool N2.out.symm, by unfold putM; rw [N2.out, Int.toNat_natCast]; exact P, Kept.setCell (F := fun k => k = gw) (Kept.refl _ _) (p := ⟨gw, d, none⟩) (.inl rfl) _⟩
    · rw [hb] at HH N2
      have N2 := Lib.hid N2
      clear hb r4
      go_enter Tryz.func308, Tryz.ntmps308
      go_wp2_with fail
      refine HF.out.mono ?_
      rintro e w1 ⟨rfl, rfl⟩
      go_wp2_with fail
      refine HH.out.mono ?_
      rintro e w1 ⟨rfl, rfl⟩
      go_wp2
      go_ret
      exact ⟨ret_bool N2.out.symm, by unfold putM; rw [N2.out]; exact HM.out, Kept.refl _ _⟩
  · have e : (decide (0 ≤ i) && decide (i < (n : Int))) = false := by
      rw [Bool.and_eq_false_iff, decide_eq_false_iff_not, decide_eq_false_iff_not]; omega
    have N : Hid (newM n ws i = false) := by unfold newM; rw [Hid, e]; rfl
    rw [e] at HF
    clear e hi HH
    go_enter Tryz.func308, Tryz.ntmps308
    go_wp2_with fail
    refine HF.out.mono ?_
    rintro e w1 ⟨rfl, rfl⟩
    go_wp2
    go_ret
    exact ⟨ret_bool N.out.symm, by unfold putM; rw [N.out]; exact HM.out, Kept.refl _ _⟩
end Go.Proofs.YtihggkmjalofiaaGreatDoor

/- A new set of small numbers; what one has is put into another one: walked. -/
namespace Go.Proofs.YtihggkmjalofiaaGreatDoor
open Go.RowKit

/-- for how many a set has room -/
def roomM (n : Int) : Nat := (min (max n 0) 65536).toNat
def zeroW (n : Nat) : List Nat := List.replicate ((n + 63) / 64) 0
theorem zeroW_ok (n : Nat) : WsOk n (zeroW n) := ⟨by simp [zeroW], fun x hx => by have := List.eq_of_mem_replicate hx; omega⟩
theorem zeroW_bit (n i : Nat) : bitAt (zeroW n) i = false := by
  unfold bitAt zeroW
  rw [List.getD_eq_getElem?_getD]
  rcases Nat.lt_or_ge (i / 64) ((n + 63) / 64) with h | h
  · rw [List.getElem?_replicate, if_pos h]; simp
  · rw [List.getElem?_eq_none (by simpa using h)]; simp
/-- a set of the call's own is handed back -/
def RetMask (w : World) (n : Nat) (ws : List Nat) (e : Ending) (w' : World) : Prop := ∃ g gw, e = .returned (.pointer (some ⟨g, 0, none⟩)) ∧ MaskAt w' g gw n ws ∧ w.heap.size ≤ g ∧ w.heap.size ≤ gw ∧ Below w.heap.size w w'
theorem made0 (k : Nat) : (madeCells (Value.int .u64 0).cells (k * 1)).toList = encW (List.replicate k 0) := by
  apply List.ext_getElem?
  intro j
  simp only [madeCells, encW, Nat.mul_one]
  rcases Nat.lt_or_ge j k with h | h
  · simp [h, Value.cells, Nat.mod_one]
  · rw [List.getElem?_eq_none (by simpa using h), List.getElem?_eq_none (by simpa using h)]
set_option maxRecDepth 100000 in
set_option maxHeartbeats 1000000 in
theorem new7_any (n : Int) (w : World) : Calls Tryz.prog 307 #[.int .i64 n] w (RetMask w (roomM n) (zeroW (roomM n))) := by
  have hinfo : (Tryz.prog.info? 76).map (fun i => (i.zero, i.size, i.bytes)) = some (some (.int .u64 0), 1, 8) := by kernel_rfl
  obtain ⟨i, hi, hzz⟩ := Option.map_eq_some_iff.1 hinfo
  simp only [Prod.mk.injEq] at hzz
  obtain ⟨hz, hsz, hby⟩ := hzz
  have hr : Hid ((roomM n : Int) = min (max n 0) 65536) := by unfold roomM; rw [Hid]; omega
  have hr2 : Hid (roomM n ≤ 65536) := by unfold roomM; rw [Hid]; omega
  obtain ⟨k, hk0⟩ : ∃ k, k = (roomM n + 63) / 64 := ⟨_, rfl⟩
  have hk : Int.tdiv (min (max n 0) 65536 + 63) 64 = (k : Int) := by
    rw [← hr.out, Int.tdiv_eq_ediv_of_nonneg (by omega)]; omega
  have hk2 : k ≤ 2000 := by have := hr2.out; omega
  have hl : Hid ((zeroW (roomM n)).length = k) := by rw [Hid, hk0]; simp [zeroW]
  have hz0 : Hid (zeroW (roomM n) = List.replicate k 0) := by rw [Hid, hk0]; rfl
  clear hk0
  clear hinfo
  go_enter Tryz.func307, Tryz.ntmps307
  go_wp2_with (at_make; refine wpList_make_full _ rfl _ _ 151 rfl w.heap.size 76 i (.int .u64 0) 1 Tryz.underlying151 hi hz hsz _ _ _ _ k (by rfl) (by rfl) rfl rfl (by rw [hby]; omega) (by unfold maxLen; omega) (Nat.le_refl _) ?_; intro w1 own1 gr1)
  rw [made0, ← hz0.out] at own1
  have B1 : Below w.heap.size w w1 := ⟨gr1.os, gr1.tape, gr1.output, gr1.size, fun k hk => gr1.block k hk (by simp)⟩
  have hlt := (own1.lt w.heap.size rfl).2
  go_ret
  refine ⟨w1.heap.size, w.heap.size, rfl, ⟨zeroW_ok _, hr2.out, ?_, ?_⟩, B1.size, Nat.le_refl _, B1.alloc B1.size _⟩
  · rw [hl.out, hr.out]
    exact Blk.new _ _ _
  · rw [hl.out]
    exact own_ext (own_rebase own1 (fun _ _ => Nat.zero_le _)) (below_new w1 _)
end Go.Proofs.YtihggkmjalofiaaGreatDoor

/- The lowest bits of a number; a word of a set, as far as there is room: walked. -/
namespace Go.Proofs.YtihggkmjalofiaaGreatDoor
open Go.RowKit

def lowN (x : Nat) (n : Int) : Nat := if n ≤ 0 then 0 else if 64 ≤ n then x else x % 2 ^ n.toNat
theorem lowN_lt {x : Nat} (h : x < 18446744073709551616) (n : Int) : lowN x n < 18446744073709551616 := by
  unfold lowN
  split
  · omega
  · split
    · exact h
    · exact Nat.lt_of_le_of_lt (Nat.mod_le _ _) h
theorem lowN_bit {x : Nat} (h : x < 18446744073709551616) (n : Int) (i : Nat) : (lowN x n).testBit i = (x.testBit i && decide ((i : Int) < n)) := by
  unfold lowN
  split
  · rw [decide_eq_false (by omega)]; simp
  · split
    · by_cases hi : i < 64
      · rw [decide_eq_true (by omega), Bool.and_true]
      · have h64 : x < 2 ^ i := Nat.lt_of_lt_of_le (show x < 2 ^ 64 from h) (Nat.pow_le_pow_right (by decide) (Nat.le_of_not_lt hi))
        have : x.testBit i = false := Nat.testBit_lt_two_pow h64
        rw [this]; rfl
    · rw [Nat.testBit_mod_two_pow, Bool.and_comm]
      congr 1
      rw [decide_eq_decide]; omega
theorem sub_run1 {c : Nat} (hc : c < 64) (w : World) : (binOp .sub 76 (.int .u64 ((2 ^ c : Nat) : Int)) (.int .u64 1)).run Tryz.prog w = .ok (.int .u64 ((2 ^ c - 1 : Nat) : Int)) w := by
  have h1 : 2 ^ c < 2 ^ 64 := Nat.pow_lt_pow_right (by omega) hc
  have h0 : 0 < 2 ^ c := Nat.two_pow_pos c
  generalize 2 ^ c = z at *
  have e : IntKind.u64.wrap ((z : Int) - 1) = ((z - 1 : Nat) : Int) := by
    rw [show (z : Int) - 1 = ((z - 1 : Nat) : Int) by omega]
    exact IntWalk.u64_in _ (by omega)
  simp only [go_sem] at e ⊢
  simp [go_sem]
  omega
theorem and_runM {x c : Nat} (hx : x < 18446744073709551616) (hc : c < 64) (w : World) : (binOp .and 76 (.int .u64 (x : Int)) (.int .u64 ((2 ^ c - 1 : Nat) : Int))).run Tryz.prog w = .ok (.int .u64 ((x % 2 ^ c : Nat) : Int)) w := by
  have h1 : 2 ^ c < 2 ^ 64 := Nat.pow_lt_pow_right (by omega) hc
  have h := u64_and_nat x (2 ^ c - 1) hx (by omega)
  rw [Nat.and_two_pow_sub_one_eq_mod] at h
  rw [← h]
  simp [go_sem]
set_option maxRecDepth 100000 in
set_option maxHeartbeats 1000000 in
theorem low_any (x : Nat) (hx : x < 18446744073709551616) (n : Int) (w : World) : Calls Tryz.prog 399 #[.int .u64 (x : Int), .int .i64 n] w (Ret w (.int .u64 ((lowN x n : Nat) : Int))) := by
  by_cases h1 : n ≤ 0
  · have e : Hid (lowN x n = 0) := if_pos h1
    go_enter Tryz.func399, Tryz.ntmps399
    go_wp2
    go_ret
    exact ⟨by rw [e.out]; rfl, rfl⟩
  · by_cases h2 : 64 ≤ n
    · have e : Hid (lowN x n = x) := by unfold lowN; rw [Hid, if_neg h1, if_pos h2]
      go_enter Tryz.func399, Tryz.ntmps399
      go_wp2
      go_ret
      exact ⟨by rw [e.out]; rfl, rfl⟩
    · obtain ⟨c, rfl⟩ : ∃ c : Nat, n = (c : Int) := ⟨n.toNat, by omega⟩
      have hc : c < 64 := by omega
      have e : Hid (lowN x (c : Int) = x % 2 ^ c) := by unfold lowN; rw [Hid, if_neg h1, if_neg h2, Int.toNat_natCast]
      have c0 : (0 : Int) ≤ (c : Int) := by omega
      have c1 : (c : Int) < 64 := by omega
      have S1 := Lib.hid (fun u => shl_runU hc u)
      have S2 := Lib.hid (fun u => sub_run1 hc u)
      have S3 := Lib.hid (fun u => and_runM hx hc u)
      go_enter Tryz.func399, Tryz.ntmps399
      go_wp2_with (first
        | ((with_reducible refine wpList_comp (op := .shl) ?_ ?_ ?_ (S1.out _) ?_); rfl; rfl; simp [eqGuard])
        | ((with_reducible refine wpList_comp (op := .sub) ?_ ?_ ?_ (S2.out _) ?_); rfl; rfl; simp [eqGuard])
        | ((with_reducible refine wpList_comp (op := .and) ?_ ?_ ?_ (S3.out _) ?_); rfl; rfl; simp [eqGuard]))
      go_ret
      exact ⟨by rw [e.out]; rfl, rfl⟩
theorem shlI6 (k : Nat) (hk : k ≤ 100000) (w : World) : (binOp .shl 3 (.int .i64 (k : Int)) (.int .u64 6)).run Tryz.prog w = .ok (.int .i64 ((64 * k : Nat) : Int)) w := by
  have e : IntKind.i64.wrap ((64 * k : Nat) : Int) = ((64 * k : Nat) : Int) := by
    rw [IntKind.wrap_i64]; omega
  rw [← e]
  simp [go_sem]
  congr 1
  omega
theorem subI3 (a b : Nat) (h1 : a ≤ 1000000) (h2 : b ≤ 100000000) (w : World) : (binOp .sub 3 (.int .i64 (a : Int)) (.int .i64 (b : Int))).run Tryz.prog w = .ok (.int .i64 ((a : Int) - (b : Int))) w := by
  have e : IntKind.i64.wrap ((a : Int) - (b : Int)) = (a : Int) - (b : Int) := by
    rw [IntKind.wrap_i64]; omega
  rw [← e]
  simp [go_sem]
/-- a word of a set, as far as there is room in another one -/
def wordN (ws : List Nat) (k room : Nat) : Nat := lowN (ws.getD k 0) ((room : Int) - ((64 * k : Nat) : Int))
theorem wordN_lt {n : Nat} {ws : List Nat} (h : WsOk n ws) (k room : Nat) : wordN ws k room < 18446744073709551616 := lowN_lt (h.getD_lt k) _
set_option maxRecDepth 100000 in
set_option maxHeartbeats 1000000 in
theorem word7_any {w : World} {g gw n : Nat} {ws : List Nat} (h : MaskAt w g gw n ws) (k room : Nat) (hk : k ≤ 2000) (hroom : room ≤ 65536) :
    Calls Tryz.prog 363 #[.pointer (some ⟨g, 0, none⟩), .int .i64 (k : Int), .int .i64 (room : Int)] w (Ret w (.int .u64 ((wordN ws k room : Nat) : Int))) := by
  have y1 : w.cell? ⟨g, 1, none⟩ = some (.slice (some ⟨gw, 0, none⟩) ws.length ws.length) := h.blk.cell 1
  by_cases hl : k < ws.length
  · have hc := h.cell hl
    have HL := Lib.hid (low_any (ws.getD k 0) (h.ok.getD_lt k) ((room : Int) - ((64 * k : Nat) : Int)) w)
    have S1 := Lib.hid (fun u => shlI6 k (by omega) u)
    have S2 := Lib.hid (fun u => subI3 room (64 * k) (by omega) (by omega) u)
    have h1 : ¬ ((ws.length : Int) ≤ (k : Int)) := by omega
    have h2 : (k : Int) < (ws.length : Int) := by omega
    have h3 : (0 : Int) ≤ (k : Int) := by omega
    have N : Hid (wordN ws k room = lowN (ws.getD k 0) ((room : Int) - ((64 * k : Nat) : Int))) := rfl
    generalize wordN ws k room = res at *
    generalize ws.getD k 0 = y at *
    generalize 64 * k = kk at *
    clear h
    go_enter Tryz.func363, Tryz.ntmps363
    go_wp2_with (first
      | ((with_reducible refine wpList_comp (op := .shl) ?_ ?_ ?_ (S1.out _) ?_); rfl; rfl; simp [eqGuard])
      | ((with_reducible refine wpList_comp (op := .sub) ?_ ?_ ?_ (S2.out _) ?_); rfl; rfl; simp [eqGuard]))
    refine HL.out.mono ?_
    rintro e w1 ⟨rfl, rfl⟩
    go_wp2
    go_ret
    exact ⟨by rw [N.out]; rfl, rfl⟩
  · have h1 : (ws.length : Int) ≤ (k : Int) := by omega
    have N : Hid (wordN ws k room = 0) := by
      unfold wordN
      rw [Hid, List.getD_eq_getElem?_getD, List.getElem?_eq_none (by omega)]
      unfold lowN
      split
      · rfl
      · split
        · rfl
        · simp
    clear h
    go_enter Tryz.func363, Tryz.ntmps363
    go_wp2
    go_ret
    exact ⟨by rw [N.out]; rfl, rfl⟩
end Go.Proofs.YtihggkmjalofiaaGreatDoor

/- What one set has is put into another one: walked. -/
namespace Go.Proofs.YtihggkmjalofiaaGreatDoor
open Go.RowKit

/-- the first k words have taken in another set's -/
def orK (ws ws' : List Nat) (n k : Nat) : List Nat := ws.mapIdx fun j y => if j < k then y ||| wordN ws' j n else y
theorem orK_len (ws ws' : List Nat) (n k : Nat) : (orK ws ws' n k).length = ws.length := by simp [orK]
theorem orK_zero (ws ws' : List Nat) (n : Nat) : orK ws ws' n 0 = ws := by
  unfold orK
  apply List.ext_getElem?
  intro j
  simp
theorem orK_get (ws ws' : List Nat) (n k j : Nat) (hj : j < ws.length) : (orK ws ws' n k).getD j 0 = if j < k then ws.getD j 0 ||| wordN ws' j n else ws.getD j 0 := by
  unfold orK
  rw [List.getD_eq_getElem?_getD, List.getElem?_mapIdx, List.getElem?_eq_getElem hj, List.getD_eq_getElem?_getD, List.getElem?_eq_getElem hj]
  rfl
theorem orK_set {ws ws' : List Nat} {n k : Nat} (hk : k < ws.length) : (orK ws ws' n k).set k (ws.getD k 0 ||| wordN ws' k n) = orK ws ws' n (k + 1) := by
  apply List.ext_getElem?
  intro j
  unfold orK
  rw [List.getElem?_set, List.getElem?_mapIdx, List.getElem?_mapIdx]
  by_cases e : k = j
  · subst e
    rw [if_pos rfl, if_pos (by simpa using hk), List.getElem?_eq_getElem hk, List.getD_eq_getElem?_getD, List.getElem?_eq_getElem hk]
    simp
  · rw [if_neg e]
    cases ws[j]? with
    | none => rfl
    | some y =>
      simp only [Option.map_some]
      by_cases h : j < k
      · rw [if_pos h, if_pos (by omega)]
      · rw [if_neg h, if_neg (by omega)]
theorem orK_ok {n m k : Nat} {ws ws' : List Nat} (h : WsOk n ws) (h' : WsOk m ws') : WsOk n (orK ws ws' n k) := by
  refine ⟨by rw [orK_len]; exact h.len, fun x hx => ?_⟩
  obtain ⟨j, hj, rfl⟩ := List.getElem_of_mem hx
  have hj' : j < ws.length := by rw [orK_len] at hj; exact hj
  have e := orK_get ws ws' n k j hj'
  rw [List.getD_eq_getElem?_getD, List.getElem?_eq_getElem hj] at e
  simp only [Option.getD_some] at e
  rw [e]
  split
  · exact Nat.or_lt_two_pow (n := 64) (h.getD_lt j) (wordN_lt h' j n)
  · exact h.getD_lt j
def orW (ws ws' : List Nat) (n : Nat) : List Nat := orK ws ws' n ws.length
/-- what is there then -/
theorem orW_bit {n m : Nat} {ws ws' : List Nat} (h : WsOk n ws) (h' : WsOk m ws') {r : Nat} (hr : r < n) : bitAt (orW ws ws' n) r = (bitAt ws r || bitAt ws' r) := by
  have hl : r / 64 < ws.length := by rw [h.len]; omega
  unfold bitAt orW
  rw [orK_get ws ws' n ws.length (r / 64) hl, if_pos hl, Nat.testBit_or]
  congr 1
  unfold wordN
  rw [lowN_bit (h'.getD_lt _), decide_eq_true (by omega), Bool.and_true]
theorem MaskAt.word {w : World} {g gw n : Nat} {ws : List Nat} (h : MaskAt w g gw n ws) {k x : Nat} (ok : WsOk n (ws.set k x)) : MaskAt (w.setCell ⟨gw, k, none⟩ (.int .u64 (x : Int))) g gw n (ws.set k x) := by
  refine ⟨ok, h.few, ?_, ?_⟩
  · rw [List.length_set]
    exact h.blk.far (p := ⟨gw, k, none⟩) (fun e => h.ne (show gw = g from (show g = gw from e).symm)) _
  · rw [List.length_set]
    have e : encW (ws.set k x) = (encW ws).set k (.int .u64 (x : Int)) := by
      unfold encW; rw [List.map_set]
    rw [e]
    exact (h.own.stored k _).1
def RetOr (w : World) (g gw n : Nat) (ws : List Nat) (e : Ending) (w' : World) : Prop := ∃ b, e = .returned (.bool b) ∧ MaskAt w' g gw n ws ∧ Kept (fun k => k = gw) w w'
set_option maxRecDepth 100000 in
set_option maxHeartbeats 2000000 in
theorem or7_gen {w : World} {g gw n m g2 : Nat} {ws ws' : List Nat} (h : MaskAt w g gw n ws) (h' : WsOk m ws')
    (HT : ∀ (k : Nat) (wr : World), k < ws.length → MaskAt wr g gw n (orK ws ws' n k) → Kept (fun k => k = gw) w wr → Calls Tryz.prog 363 #[.pointer (some ⟨g2, 0, none⟩), .int .i64 (k : Int), .int .i64 (n : Int)] wr (Ret wr (.int .u64 ((wordN ws' k n : Nat) : Int)))) :
    Calls Tryz.prog 310 #[.pointer (some ⟨g, 0, none⟩), .pointer (some ⟨g2, 0, none⟩)] w (RetOr w g gw n (orW ws ws' n)) := by
  have HR := Lib.hid (room7_any h)
  have M0 : Hid (MaskAt w g gw n (orK ws ws' n 0)) := by rw [orK_zero]; exact h
  have OKA := Lib.hid (fun k => orK_ok (k := k) h.ok h')
  have HT := Lib.hid HT
  have OK := Lib.hid h.ok
  have hlen := h.ok.len
  have hfew := h.few
  have hq : Int.tdiv ((n : Int) + 63) 64 = (ws.length : Int) := by
    rw [Int.tdiv_eq_ediv_of_nonneg (by omega), hlen]; omega
  have hl0 : ws.length ≤ 2000 := by omega
  clear h
  go_enter Tryz.func310, Tryz.ntmps310
  go_wp2_with fail
  refine HR.out.mono ?_
  rintro e w1 ⟨rfl, rfl⟩
  have KR := Lib.hid (Kept.refl (fun k => k = gw) w)
  go_wp2_with fail
  go_loopw [12, 5] (fun i v wr => ∃ (k : Nat) (b : Bool), k ≤ ws.length ∧ i = .int .i64 k ∧ v = .bool b ∧ Hid (MaskAt wr g gw n (orK ws ws' n k)) ∧ Hid (Kept (fun k => k = gw) w wr)) (fun i _ _ => ws.length - (intOf i).toNat)
  case atStart => exact ⟨0, false, by omega, rfl, rfl, M0.out, KR.out⟩
  case round =>
    clear M0 KR
    obtain ⟨k, bm, hk, rfl, rfl, M, K⟩ := hrel
    have hk0 : (0 : Int) ≤ (k : Int) := by omega
    by_cases hlt : k < ws.length
    · have hlk : (k : Int) < (ws.length : Int) := by omega
      have hy2 := OK.out.getD_lt k
      have hx2 := wordN_lt h' k n
      have q0 : ∀ z : Ext wr, z.w.cell? ⟨g, 0, none⟩ = some (.int .i64 (n : Int)) := fun z => (M.out.blk.ext z.h).cell 0
      have q1 : ∀ z : Ext wr, z.w.cell? ⟨g, 1, none⟩ = some (.slice (some ⟨gw, 0, none⟩) ws.length ws.length) := fun z => by
        have := (M.out.blk.ext z.h).cell 1
        rw [orK_len] at this; exact this
      have qc : ∀ z : Ext wr, z.w.cell? ⟨gw, k, none⟩ = some (.int .u64 ((ws.getD k 0 : Nat) : Int)) := fun z => by
        have := (M.out.ext z.h).cell (k := k) (by rw [orK_len]; exact hlt)
        rw [orK_get ws ws' n k k hlt, if_neg (by omega)] at this; exact this
      have HW := Lib.hid (fun z : Ext wr => HT.out k z.w hlt (M.out.ext z.h) (K.out.then z.h))
      have r1 := u64_or_nat (ws.getD k 0) (wordN ws' k n) hy2 hx2
      have N := Lib.hid (orK_set (ws' := ws') (n := n) hlt)
      have N2 : Hid ((orK ws ws' n k).set k (ws.getD k 0 ||| wordN ws' k n) = orK ws ws' n (k + 1)) := N.out
      have OKN := OKA.out (k + 1)
      rw [← N2.out] at OKN
      have OKN := Lib.hid OKN
      have hkl : Hid (k < (orK ws ws' n k).length) := by rw [Hid, orK_len]; exact hlt
      generalize wordN ws' k n = x at *
      generalize ws.getD k 0 = y at *
      generalize y ||| x = v at *
      go_upto_region 5 with fail
      refine wp_region_ext mixedS (by kernel_rfl) ?_
      repeat (first
        | go_big_quiet_step ((go_at_call 363; exact ext_ret (HW.out _))))
      refine wpQuiet_nil ?_
      rintro _ ⟨z, rfl⟩
      have y1 := q1 z
      have yc := qc z
      have M := Lib.hid (M.out.ext z.h)
      have K := Lib.hid (K.out.then z.h)
      generalize z.w = w3 at *
      clear q0 q1 qc HW r1
      have f0 : w3.frozen? ⟨gw, k, none⟩ = false := M.out.own.frozenAt _
      have M2 := M.out.word (k := k) (x := v) OKN.out
      rw [N2.out] at M2
      have M2 := Lib.hid M2
      have K2 := Lib.hid (Kept.setCell (F := fun b => b = gw) K.out (p := ⟨gw, k, none⟩) (.inl rfl) (.int .u64 (v : Int)))
      clear M K
      cases bm
      · go_wp2_with fail
        go_roundw
        case rel => exact ⟨k + 1, _, by omega, by go_num, rfl, M2.out, K2.out⟩
        case measure => simp [intOf]; omega
      · go_wp2_with fail
        go_roundw
        case rel => exact ⟨k + 1, _, by omega, by go_num, rfl, M2.out, K2.out⟩
        case measure => simp [intOf]; omega
    · have hk' : k = ws.length := by omega
      subst hk'
      have hlk : ¬ ((ws.length : Int) < (ws.length : Int)) := by omega
      go_wp2
      go_ret
      exact ⟨bm, rfl, M.out, K.out⟩
theorem or7_any {w : World} {g gw n m g2 gw2 : Nat} {ws ws' : List Nat} (h : MaskAt w g gw n ws) (h2 : MaskAt w g2 gw2 m ws') (hne : g2 ≠ gw) (hne2 : gw2 ≠ gw) : Calls Tryz.prog 310 #[.pointer (some ⟨g, 0, none⟩), .pointer (some ⟨g2, 0, none⟩)] w (RetOr w g gw n (orW ws ws' n)) := by
  have hl := h.ok.len
  have hf := h.few
  exact or7_gen h h2.ok fun k wr hk _ hK => word7_any (h2.keep (hK.block g2 h2.lt.1 hne) (hK.block gw2 h2.lt.2 hne2)) k n (by omega) hf
theorem or7_self {w : World} {g gw n : Nat} {ws : List Nat} (h : MaskAt w g gw n ws) : Calls Tryz.prog 310 #[.pointer (some ⟨g, 0, none⟩), .pointer (some ⟨g, 0, none⟩)] w (RetOr w g gw n (orW ws ws n)) := by
  have hl := h.ok.len
  have hf := h.few
  refine or7_gen h h.ok fun k wr hk hM _ => ?_
  have := word7_any hM k n (by omega) hf
  have e : wordN (orK ws ws n k) k n = wordN ws k n := by
    unfold wordN
    rw [orK_get ws ws n k k hk, if_neg (by omega)]
  rw [e] at this
  exact this
end Go.Proofs.YtihggkmjalofiaaGreatDoor

/- The lowest bit of a number: walked. -/
namespace Go.Proofs.YtihggkmjalofiaaGreatDoor
open Go.RowKit

theorem lowN_zero {y : Nat} (hy : y < 18446744073709551616) {h j : Nat} (hj : y.testBit j = true) (hm : ∀ i, i < j → y.testBit i = false) : (lowN y (h : Int) = 0) ↔ h ≤ j := by
  constructor
  · intro e
    rcases Nat.lt_or_ge j h with hlt | hge
    · have := lowN_bit hy (h : Int) j
      rw [e, hj, decide_eq_true (by omega)] at this
      simp at this
    · exact hge
  · intro hle
    apply Nat.eq_of_testBit_eq
    intro i
    rw [lowN_bit hy, Nat.zero_testBit]
    by_cases hi : i < h
    · rw [hm i (by omega)]; rfl
    · rw [decide_eq_false (by omega), Bool.and_false]
theorem first_ex {x : Nat} (h0 : x ≠ 0) (hx : x < 18446744073709551616) : ∃ p, p < 64 ∧ x.testBit p = true ∧ ∀ i, i < p → x.testBit i = false := by
  obtain ⟨q, hq⟩ := Nat.exists_testBit_of_ne_zero h0
  have key : ∀ m, (∃ q, q < m ∧ x.testBit q = true) → ∃ p, p < m ∧ x.testBit p = true ∧ ∀ i, i < p → x.testBit i = false := by
    intro m
    induction m with
    | zero => rintro ⟨q, hq, _⟩; omega
    | succ m ih =>
      rintro ⟨q, hq, hb⟩
      by_cases he : ∃ q, q < m ∧ x.testBit q = true
      · obtain ⟨p, h1, h2, h3⟩ := ih he
        exact ⟨p, by omega, h2, h3⟩
      · have hqm : q = m := by
          rcases Nat.lt_or_ge q m with h | h
          · exact absurd ⟨q, h, hb⟩ he
          · omega
        subst hqm
        refine ⟨q, by omega, hb, fun i hi => ?_⟩
        cases hc : x.testBit i
        · rfl
        · exact absurd ⟨i, hi, hc⟩ he
  refine key 64 ⟨q, ?_, hq⟩
  rcases Nat.lt_or_ge q 64 with h | h
  · exact h
  · have : x.testBit q = false := Nat.testBit_lt_two_pow (Nat.lt_of_lt_of_le (show x < 2 ^ 64 from hx) (Nat.pow_le_pow_right (by decide) h))
    rw [hq] at this; cases this
theorem shr_half (h : Nat) (w : World) : (binOp .shr 3 (.int .i64 (h : Int)) (.int .u64 1)).run Tryz.prog w = .ok (.int .i64 ((h / 2 : Nat) : Int)) w := by
  have e : ((h / 2 : Nat) : Int) = (h : Int) / 2 := by omega
  rw [e]
  simp [go_sem]
def halfOk (h : Nat) : Prop := h = 0 ∨ h = 1 ∨ h = 2 ∨ h = 4 ∨ h = 8 ∨ h = 16 ∨ h = 32
theorem div_testBit (x n i : Nat) : (x / 2 ^ n).testBit i = x.testBit (n + i) := by
  rw [← Nat.shiftRight_eq_div_pow, Nat.testBit_shiftRight]
set_option maxRecDepth 100000 in
set_option maxHeartbeats 2000000 in
theorem first_any (x : Nat) (hx : x < 18446744073709551616) (p : Nat) (hp : p < 64) (hb : x.testBit p = true) (hm : ∀ i, i < p → x.testBit i = false) (w : World) : Calls Tryz.prog 400 #[.int .u64 (x : Int)] w (Ret w (.int .i64 (p : Int))) := by
  have HB := Lib.hid hb
  have HM := Lib.hid hm
  have HX := Lib.hid hx
  clear hb hm hx
  go_enter Tryz.func400, Tryz.ntmps400
  go_wp2_with fail
  go_loop [4, 3, 0] (fun hv nv xv => ∃ h n : Nat, Hid (halfOk h) ∧ hv = .int .i64 (h : Int) ∧ nv = .int .i64 (n : Int) ∧ xv = .int .u64 ((x / 2 ^ n : Nat) : Int) ∧ n ≤ p ∧ p < n + (if h = 0 then 1 else 2 * h)) (fun hv _ _ => (intOf hv).toNat)
  case atStart => exact ⟨32, 0, by simp [Hid, halfOk], rfl, rfl, by rw [Nat.pow_zero, Nat.div_one], by omega, by simp; omega⟩
  case round =>
    obtain ⟨h, n, HO, rfl, rfl, rfl, hn, hlt⟩ := hrel
    have hy : x / 2 ^ n < 18446744073709551616 := Nat.lt_of_le_of_lt (Nat.div_le_self _ _) HX.out
    have hyp : (x / 2 ^ n).testBit (p - n) = true := by rw [div_testBit, Nat.add_sub_cancel' hn]; exact HB.out
    have hym : ∀ i, i < p - n → (x / 2 ^ n).testBit i = false := fun i hi => by rw [div_testBit]; exact HM.out _ (by omega)
    have hh : h ≤ 32 := by rcases HO.out with h | h | h | h | h | h | h <;> omega
    by_cases h0 : h = 0
    · subst h0
      rw [if_pos rfl] at hlt
      obtain rfl : n = p := by omega
      have r1 : bits .and .u64 ((x / 2 ^ n : Nat) : Int) 1 = 1 := by
        have h := u64_and_nat (x / 2 ^ n) 1 hy (by omega)
        rw [show ((1 : Nat) : Int) = 1 from rfl, Nat.and_one_is_mod] at h
        rw [h]
        have := bit_and1 (x / 2 ^ n) 0
        rw [Nat.pow_zero, Nat.div_one] at this
        rw [this]
        rw [Nat.sub_self] at hyp
        rw [hyp]; rfl
      generalize x / 2 ^ n = y at *
      clear hyp hym hy HO hlt hh
      go_wp2
      go_ret
      exact ⟨rfl, rfl⟩
    · have hgt : (0 : Int) < (h : Int) := by omega
      have HL := Lib.hid (fun u => low_any (x / 2 ^ n) hy (h : Int) u)
      have S2 := Lib.hid (fun u => shr_half h u)
      have Z := lowN_zero (h := h) hy hyp hym
      have HO2 : Hid (halfOk (h / 2)) := by
        unfold halfOk
        rcases HO.out with h | h | h | h | h | h | h <;> (subst h; simp [Hid])
      have hev : h = 1 ∨ 2 * (h / 2) = h := by rcases HO.out with h | h | h | h | h | h | h <;> omega
      rw [if_neg h0] at hlt
      by_cases hz : h ≤ p - n
      · rw [Z.2 hz] at HL
        have e1 : x / 2 ^ n / 2 ^ h = x / 2 ^ (n + h) := by rw [Nat.div_div_eq_div_mul, ← Nat.pow_add]
        have S3 := Lib.hid (fun u => shr_runU (x / 2 ^ n) (c := h) (by omega) u)
        rw [e1] at S3
        have hc1 : (h : Int) < 64 := by omega
        have hnn : n + h ≤ p := by omega
        have hbd : p < n + h + (if h / 2 = 0 then 1 else 2 * (h / 2)) := by
          split <;> omega
        have hn64 : (n : Int) + (h : Int) ≤ 9223372036854775807 := by omega
        have hX2 : Hid ((Value.int .u64 ((x / 2 ^ (n + h) : Nat) : Int)) = .int .u64 ((x / 2 ^ (n + h) : Nat) : Int)) := rfl
        generalize hv : x / 2 ^ (n + h) = v2 at *
        generalize x / 2 ^ n = y at *
        clear hyp hym hy Z e1 hlt hev
        go_wp2_with fail
        refine (HL.out _).mono ?_
        rintro e w1 ⟨rfl, rfl⟩
        go_wp2_with (first
          | ((with_reducible refine wpList_comp (op := .shr) ?_ ?_ ?_ (S3.out _) ?_); rfl; rfl; simp [eqGuard])
          | ((with_reducible refine wpList_comp (op := .shr) ?_ ?_ ?_ (S2.out _) ?_); rfl; rfl; simp [eqGuard]))
        go_round
        case rel => exact ⟨h / 2, n + h, HO2.out, rfl, by go_num, by rw [hv], hnn, hbd⟩
        case measure => simp [intOf]; omega
      · have hne : lowN (x / 2 ^ n) (h : Int) ≠ 0 := fun e => hz (Z.1 e)
        have hbd : p < n + (if h / 2 = 0 then 1 else 2 * (h / 2)) := by
          split <;> omega
        generalize lowN (x / 2 ^ n) (h : Int) = z at *
        have z0 : ¬ ((z : Int) = 0) := by omega
        have z1 : ((z : Int) == 0) = false := by simp; omega
        have HX3 : Hid ((Value.int .u64 ((x / 2 ^ n : Nat) : Int)) = .int .u64 ((x / 2 ^ n : Nat) : Int)) := rfl
        generalize hv : x / 2 ^ n = y at *
        clear hyp hym hy Z hlt hev hne
        go_wp2_with fail
        refine (HL.out _).mono ?_
        rintro e w1 ⟨rfl, rfl⟩
        go_wp2_with ((with_reducible refine wpList_comp (op := .shr) ?_ ?_ ?_ (S2.out _) ?_); rfl; rfl; simp [eqGuard])
        go_round
        case rel => exact ⟨h / 2, n, HO2.out, rfl, rfl, by rw [hv], hn, hbd⟩
        case measure => simp [intOf]; omega
end Go.Proofs.YtihggkmjalofiaaGreatDoor

/- The least number of a set from one on: walked. -/
namespace Go.Proofs.YtihggkmjalofiaaGreatDoor
open Go.RowKit

/-- nothing is set behind the room -/
def CleanW (n : Nat) (ws : List Nat) : Prop := ∀ i, n ≤ i → bitAt ws i = false
theorem CleanW.zero (n : Nat) : CleanW n (zeroW n) := fun i _ => zeroW_bit n i
theorem bitAt_out {ws : List Nat} {i : Nat} (h : ws.length ≤ i / 64) : bitAt ws i = false := by
  unfold bitAt
  rw [List.getD_eq_getElem?_getD, List.getElem?_eq_none h]
  exact Nat.zero_testBit _
theorem CleanW.put {n : Nat} {ws : List Nat} (h : WsOk n ws) (hc : CleanW n ws) {q : Nat} (hq : q < n) : CleanW n (putBit ws q) := fun i hi => by
  rw [bit_putW h hq, hc i hi, decide_eq_false (by omega)]; rfl
theorem CleanW.orW {n m : Nat} {ws ws' : List Nat} (h' : WsOk m ws') (hc : CleanW n ws) : CleanW n (orW ws ws' n) := fun i hi => by
  by_cases hl : i / 64 < ws.length
  · have h1 := hc i hi
    unfold bitAt Go.Proofs.YtihggkmjalofiaaGreatDoor.orW at *
    rw [orK_get ws ws' n ws.length (i / 64) hl, if_pos hl, Nat.testBit_or, h1, Bool.false_or]
    unfold wordN
    rw [lowN_bit (h'.getD_lt _), decide_eq_false (by omega), Bool.and_false]
  · exact bitAt_out (by unfold Go.Proofs.YtihggkmjalofiaaGreatDoor.orW; rw [orK_len]; omega)
/-- the least number from one on, or -1 -/
def NextP (n : Nat) (ws : List Nat) (f : Nat) (r : Int) : Prop :=
  (r = -1 ∧ ∀ i, f ≤ i → i < n → bitAt ws i = false) ∨ ∃ i : Nat, r = (i : Int) ∧ f ≤ i ∧ i < n ∧ bitAt ws i = true ∧ ∀ j, f ≤ j → j < i → bitAt ws j = false
def RetNext (w : World) (n : Nat) (ws : List Nat) (f : Nat) (e : Ending) (w' : World) : Prop := ∃ r, e = .returned (.int .i64 r) ∧ w' = w ∧ NextP n ws f r
theorem shl_back {y c : Nat} (hy : y < 18446744073709551616) (hc : c < 64) (w : World) : (binOp .shl 76 (.int .u64 ((y / 2 ^ c : Nat) : Int)) (.int .u64 (c : Int))).run Tryz.prog w = .ok (.int .u64 ((y / 2 ^ c * 2 ^ c : Nat) : Int)) w := by
  have h1 : y / 2 ^ c * 2 ^ c ≤ y := Nat.div_mul_le_self _ _
  have e : IntKind.u64.wrap ((y / 2 ^ c * 2 ^ c : Nat) : Int) = ((y / 2 ^ c * 2 ^ c : Nat) : Int) := IntWalk.u64_in _ (by omega)
  rw [← e]
  simp [go_sem]
theorem back_bit (y c i : Nat) : (y / 2 ^ c * 2 ^ c).testBit i = (decide (c ≤ i) && y.testBit i) := by
  rw [Nat.testBit_mul_two_pow]
  by_cases h : c ≤ i
  · rw [decide_eq_true h, Bool.true_and, Bool.true_and, div_testBit, Nat.add_sub_cancel' h]
  · rw [decide_eq_false h]; rfl
set_option maxRecDepth 100000 in
set_option maxHeartbeats 2000000 in
theorem next7_any {w : World} {g gw n : Nat} {ws : List Nat} (h : MaskAt w g gw n ws) (hcl : CleanW n ws) (from_ : Int) (f : Nat) (hf : max from_ 0 = (f : Int)) :
    Calls Tryz.prog 365 #[.pointer (some ⟨g, 0, none⟩), .int .i64 from_] w (RetNext w n ws f) := by
  have HR := Lib.hid (room7_any h)
  have HM := Lib.hid h
  have HC := Lib.hid hcl
  have hlen := h.ok.len
  have hfew := h.few
  have y1 : w.cell? ⟨g, 1, none⟩ = some (.slice (some ⟨gw, 0, none⟩) ws.length ws.length) := h.blk.cell 1
  clear h hcl
  go_enter Tryz.func365, Tryz.ntmps365
  go_wp2_with fail
  refine HR.out.mono ?_
  rintro e w1 ⟨rfl, rfl⟩
  by_cases hfn : (n : Int) ≤ (f : Int)
  · go_wp2
    go_ret
    exact ⟨-1, rfl, rfl, .inl ⟨rfl, fun i h1 h2 => by omega⟩⟩
  · have S1 := Lib.hid (fun u => shrI6 f u)
    go_wp2_with ((with_reducible refine wpList_comp (op := .shr) ?_ ?_ ?_ (S1.out _) ?_); rfl; rfl; simp [eqGuard])
    go_loop [5] (fun kv => ∃ k : Nat, kv = .int .i64 (k : Int) ∧ f / 64 ≤ k ∧ k ≤ ws.length ∧ Hid (∀ i, f ≤ i → i < 64 * k → bitAt ws i = false)) (fun kv => ws.length - (intOf kv).toNat)
    case atStart => exact ⟨f / 64, rfl, Nat.le_refl _, by omega, fun i h1 h2 => by omega⟩
    case round =>
      obtain ⟨k, rfl, hk, hkl, HB⟩ := hrel
      by_cases hlt : k < ws.length
      · have hlk : (k : Int) < (ws.length : Int) := by omega
        have hk0 : (0 : Int) ≤ (k : Int) := by omega
        have hcell := HM.out.cell hlt
        have hy := HM.out.ok.getD_lt k
        have hbit : ∀ i, i < 64 → bitAt ws (64 * k + i) = (ws.getD k 0).testBit i := fun i hi => by
          unfold bitAt
          rw [show (64 * k + i) / 64 = k by omega, show (64 * k + i) % 64 = i by omega]
        obtain ⟨d, hd⟩ : ∃ d, d = f / 64 := ⟨_, rfl⟩
        rw [← hd] at S1 hk
        by_cases hkd : k = d
        · subst hkd
          have hkk : ((k : Int) == (k : Int)) = true := by simp
          obtain ⟨c, hc⟩ : ∃ c, c = f % 64 := ⟨_, rfl⟩
          have hc64 : c < 64 := by omega
          have c0 : (0 : Int) ≤ (c : Int) := by omega
          have c1 : (c : Int) < 64 := by omega
          have R2 := Lib.hid (fun u => and_runI f u)
          rw [← hc] at R2
          have S3 := Lib.hid (fun u => shr_runU (ws.getD k 0) hc64 u)
          have S4 := Lib.hid (fun u => shl_back hy hc64 u)
          have hxl : ws.getD k 0 / 2 ^ c * 2 ^ c < 18446744073709551616 := Nat.lt_of_le_of_lt (Nat.div_mul_le_self _ _) hy
          have hfe : f = 64 * k + c := by omega
          have XB : ∀ i, i < 64 → (ws.getD k 0 / 2 ^ c * 2 ^ c).testBit i = (decide (f ≤ 64 * k + i) && bitAt ws (64 * k + i)) := fun i hi => by
              rw [back_bit, hbit i hi]
              congr 1
              rw [decide_eq_decide]; omega
          by_cases hx0 : ws.getD k 0 / 2 ^ c * 2 ^ c = 0
          · have NB : Hid (∀ i, f ≤ i → i < 64 * (k + 1) → bitAt ws i = false) := fun i h1 h2 => by
              rcases Nat.lt_or_ge i (64 * k) with h3 | h3
              · exact HB.out i h1 h3
              · have := XB (i - 64 * k) (by omega)
                rw [hx0, Nat.zero_testBit, show 64 * k + (i - 64 * k) = i by omega, decide_eq_true h1, Bool.true_and] at this
                exact this.symm
            have HK1 : Hid (f / 64 ≤ k + 1) := by rw [Hid]; omega
            generalize hxv : ws.getD k 0 / 2 ^ c * 2 ^ c = xv at *
            subst hx0
            clear XB hbit hxv hfe hc hd
            go_wp2_with (first
              | ((with_reducible refine wpList_comp (op := .shr) ?_ ?_ ?_ (S1.out _) ?_); rfl; rfl; simp [eqGuard])
              | ((with_reducible refine wpList_comp (op := .and) ?_ ?_ ?_ (R2.out _) ?_); rfl; rfl; simp [eqGuard])
              | ((with_reducible refine wpList_comp (op := .shr) ?_ ?_ ?_ (S3.out _) ?_); rfl; rfl; simp [eqGuard])
              | ((with_reducible refine wpList_comp (op := .shl) ?_ ?_ ?_ (S4.out _) ?_); rfl; rfl; simp [eqGuard]))
            go_round
            case rel => exact ⟨k + 1, by go_num, HK1.out, by omega, NB.out⟩
            case measure => simp [intOf]; omega
          · obtain ⟨p, hp, hb, hmn⟩ := first_ex hx0 hxl
            have HF := Lib.hid (fun u => first_any (ws.getD k 0 / 2 ^ c * 2 ^ c) hxl p hp hb hmn u)
            have S6 := Lib.hid (fun u => shlI6 k (by omega) u)
            have hbp := XB p hp
            rw [hb] at hbp
            have hbp2 := Bool.and_eq_true_iff.1 hbp.symm
            have NX : Hid (NextP n ws f (((64 * k : Nat) : Int) + (p : Int))) := by
              refine .inr ⟨64 * k + p, by omega, of_decide_eq_true hbp2.1, ?_, hbp2.2, fun j h1 h2 => ?_⟩
              · rcases Nat.lt_or_ge (64 * k + p) n with h3 | h3
                · exact h3
                · have := HC.out _ h3
                  rw [hbp2.2] at this; cases this
              · rcases Nat.lt_or_ge j (64 * k) with h3 | h3
                · exact HB.out j h1 h3
                · have := XB (j - 64 * k) (by omega)
                  rw [hmn _ (by omega), show 64 * k + (j - 64 * k) = j by omega, decide_eq_true h1, Bool.true_and] at this
                  exact this.symm
            generalize ws.getD k 0 / 2 ^ c * 2 ^ c = xv at *
            have z0 : ¬ ((xv : Int) = 0) := by omega
            have z1 : ((xv : Int) == 0) = false := by simp; omega
            have z2 : ((xv : Int) != 0) = true := by simp; omega
            have hs0 : ((64 * k : Nat) : Int) + (p : Int) ≤ 9223372036854775807 := by omega
            clear XB hbit hbp hbp2 hb hmn hx0 hfe hc hd
            generalize 64 * k = kk at *
            go_wp2_with (first
              | ((with_reducible refine wpList_comp (op := .shl) ?_ ?_ ?_ (S6.out _) ?_); rfl; rfl; simp [eqGuard])
              | ((with_reducible refine wpList_comp (op := .shr) ?_ ?_ ?_ (S1.out _) ?_); rfl; rfl; simp [eqGuard])
              | ((with_reducible refine wpList_comp (op := .and) ?_ ?_ ?_ (R2.out _) ?_); rfl; rfl; simp [eqGuard])
              | ((with_reducible refine wpList_comp (op := .shr) ?_ ?_ ?_ (S3.out _) ?_); rfl; rfl; simp [eqGuard])
              | ((with_reducible refine wpList_comp (op := .shl) ?_ ?_ ?_ (S4.out _) ?_); rfl; rfl; simp [eqGuard]))
            refine (HF.out _).mono ?_
            rintro e w2 ⟨rfl, rfl⟩
            go_wp2
            go_ret
            exact ⟨_, rfl, rfl, NX.out⟩
        · have hkk : ((k : Int) == (d : Int)) = false := by simp; omega
          have hkk2 : ¬ ((k : Int) = (d : Int)) := by omega
          have XB : ∀ i, i < 64 → (ws.getD k 0).testBit i = (decide (f ≤ 64 * k + i) && bitAt ws (64 * k + i)) := fun i hi => by
              rw [hbit i hi, decide_eq_true (by omega), Bool.true_and]
          by_cases hx0 : ws.getD k 0 = 0
          · have NB : Hid (∀ i, f ≤ i → i < 64 * (k + 1) → bitAt ws i = false) := fun i h1 h2 => by
              rcases Nat.lt_or_ge i (64 * k) with h3 | h3
              · exact HB.out i h1 h3
              · have := XB (i - 64 * k) (by omega)
                rw [hx0, Nat.zero_testBit, show 64 * k + (i - 64 * k) = i by omega, decide_eq_true h1, Bool.true_and] at this
                exact this.symm
            have HK1 : Hid (f / 64 ≤ k + 1) := by rw [Hid]; omega
            generalize hxv : ws.getD k 0 = xv at *
            subst hx0
            clear XB hbit hxv hd
            go_wp2_with (first
              | ((with_reducible refine wpList_comp (op := .shr) ?_ ?_ ?_ (S1.out _) ?_); rfl; rfl; simp [eqGuard]))
            go_round
            case rel => exact ⟨k + 1, by go_num, HK1.out, by omega, NB.out⟩
            case measure => simp [intOf]; omega
          · obtain ⟨p, hp, hb, hmn⟩ := first_ex hx0 hy
            have HF := Lib.hid (fun u => first_any (ws.getD k 0) hy p hp hb hmn u)
            have S6 := Lib.hid (fun u => shlI6 k (by omega) u)
            have hbp := XB p hp
            rw [hb] at hbp
            have hbp2 := Bool.and_eq_true_iff.1 hbp.symm
            have NX : Hid (NextP n ws f (((64 * k : Nat) : Int) + (p : Int))) := by
              refine .inr ⟨64 * k + p, by omega, of_decide_eq_true hbp2.1, ?_, hbp2.2, fun j h1 h2 => ?_⟩
              · rcases Nat.lt_or_ge (64 * k + p) n with h3 | h3
                · exact h3
                · have := HC.out _ h3
                  rw [hbp2.2] at this; cases this
              · rcases Nat.lt_or_ge j (64 * k) with h3 | h3
                · exact HB.out j h1 h3
                · have := XB (j - 64 * k) (by omega)
                  rw [hmn _ (by omega), show 64 * k + (j - 64 * k) = j by omega, decide_eq_true h1, Bool.true_and] at this
                  exact this.symm
            generalize ws.getD k 0 = xv at *
            have z0 : ¬ ((xv : Int) = 0) := by omega
            have z1 : ((xv : Int) == 0) = false := by simp; omega
            have z2 : ((xv : Int) != 0) = true := by simp; omega
            have hs0 : ((64 * k : Nat) : Int) + (p : Int) ≤ 9223372036854775807 := by omega
            clear XB hbit hbp hbp2 hb hmn hx0 hd
            generalize 64 * k = kk at *
            go_wp2_with (first
              | ((with_reducible refine wpList_comp (op := .shl) ?_ ?_ ?_ (S6.out _) ?_); rfl; rfl; simp [eqGuard])
              | ((with_reducible refine wpList_comp (op := .shr) ?_ ?_ ?_ (S1.out _) ?_); rfl; rfl; simp [eqGuard]))
            refine (HF.out _).mono ?_
            rintro e w2 ⟨rfl, rfl⟩
            go_wp2
            go_ret
            exact ⟨_, rfl, rfl, NX.out⟩
      · have hk' : k = ws.length := by omega
        subst hk'
        have hlk : ¬ ((ws.length : Int) < (ws.length : Int)) := by omega
        go_wp2
        go_ret
        exact ⟨-1, rfl, rfl, .inl ⟨rfl, fun i h1 h2 => HB.out i h1 (by omega)⟩⟩
end Go.Proofs.YtihggkmjalofiaaGreatDoor

/- Has one set all of another one? Walked. -/
namespace Go.Proofs.YtihggkmjalofiaaGreatDoor
open Go.RowKit

def withM (n : Nat) (ws : List Nat) (n2 : Nat) (ws2 : List Nat) : Bool := (List.range n).all fun i => !bitAt ws i || hasM n2 ws2 (i : Int)
theorem withM_iff {n : Nat} {ws : List Nat} {n2 : Nat} {ws2 : List Nat} : withM n ws n2 ws2 = true ↔ ∀ i, i < n → bitAt ws i = true → hasM n2 ws2 (i : Int) = true := by
  unfold withM
  rw [List.all_eq_true]
  constructor
  · intro h i hi hb
    have := h i (List.mem_range.2 hi)
    rw [hb] at this
    simpa using this
  · intro h i hi
    cases hb : bitAt ws i
    · rfl
    · rw [h i (List.mem_range.1 hi) hb]; rfl
set_option maxRecDepth 100000 in
set_option maxHeartbeats 2000000 in
theorem within7_any {w : World} {g gw n g2 gw2 n2 : Nat} {ws ws2 : List Nat} (h : MaskAt w g gw n ws) (hcl : CleanW n ws) (h2 : MaskAt w g2 gw2 n2 ws2) :
    Calls Tryz.prog 314 #[.pointer (some ⟨g, 0, none⟩), .pointer (some ⟨g2, 0, none⟩)] w (Ret w (.bool (withM n ws n2 ws2))) := by
  have HN := Lib.hid (fun (a : Int) (f : Nat) (hf : max a 0 = (f : Int)) => next7_any h hcl a f hf)
  have HH := Lib.hid (fun i => has7_any h2 i)
  have hfew := h.few
  clear h h2 hcl
  go_enter Tryz.func314, Tryz.ntmps314
  go_wp2_with fail
  refine (HN.out 0 0 (by omega)).mono ?_
  rintro e w1 ⟨r, rfl, rfl, hr⟩
  have R := Lib.hid hr
  clear hr
  go_wp2_with fail
  go_loop [5] (fun v => ∃ (f : Nat) (r : Int), v = .int .i64 r ∧ Hid (NextP n ws f r) ∧ Hid (∀ i, i < f → i < n → bitAt ws i = true → hasM n2 ws2 (i : Int) = true)) (fun v => if intOf v < 0 then 0 else (n + 1 - intOf v).toNat)
  case atStart => exact ⟨0, r, rfl, R.out, fun i h => by omega⟩
  case round =>
    clear R
    obtain ⟨f, r, rfl, R, T⟩ := hrel
    rcases R.out with ⟨rfl, hno⟩ | ⟨i, rfl, hfi, hin, hb, hno⟩
    · have N : Hid (withM n ws n2 ws2 = true) := withM_iff.2 fun j hj hbj => by
        rcases Nat.lt_or_ge j f with h1 | h1
        · exact T.out j h1 hj hbj
        · rw [hno j h1 hj] at hbj; cases hbj
      clear hno R T
      go_wp2
      go_ret
      exact ⟨ret_bool N.out.symm, rfl⟩
    · have hi0 : (0 : Int) ≤ (i : Int) := by omega
      have hi1 : (i : Int) < (n : Int) := by omega
      have HI := Lib.hid (HH.out (i : Int))
      cases hh : hasM n2 ws2 (i : Int)
      · rw [hh] at HI
        have N : Hid (withM n ws n2 ws2 = false) := by
          cases hc : withM n ws n2 ws2
          · rfl
          · have := withM_iff.1 hc i hin hb
            rw [hh] at this; cases this
        clear hno R T hh hb
        go_wp2_with fail
        refine HI.out.mono ?_
        rintro e w1 ⟨rfl, rfl⟩
        go_wp2
        go_ret
        exact ⟨ret_bool N.out.symm, rfl⟩
      · rw [hh] at HI
        have T2 : Hid (∀ j, j < i + 1 → j < n → bitAt ws j = true → hasM n2 ws2 (j : Int) = true) := fun j h1 h2 h3 => by
          rcases Nat.lt_or_ge j f with h4 | h4
          · exact T.out j h4 h2 h3
          · rcases Nat.lt_or_ge j i with h5 | h5
            · rw [hno j h4 h5] at h3; cases h3
            · have : j = i := by omega
              subst this
              exact hh
        have HX := Lib.hid (HN.out ((i : Int) + 1) (i + 1) (by omega))
        clear hno R T hh hb
        go_wp2_with fail
        refine HI.out.mono ?_
        rintro e w1 ⟨rfl, rfl⟩
        go_wp2_with fail
        refine HX.out.mono ?_
        rintro e w2 ⟨r2, rfl, rfl, hr2⟩
        have R2 := Lib.hid hr2
        have hm : Hid ((if r2 < 0 then 0 else ((n : Int) + 1 - r2).toNat) < (if (i : Int) < 0 then 0 else ((n : Int) + 1 - (i : Int)).toNat)) := by
          rcases hr2 with ⟨rfl, _⟩ | ⟨q, rfl, hq, hqn, _, _⟩
          · rw [Hid, if_pos (by omega), if_neg (by omega)]; omega
          · rw [Hid, if_neg (by omega), if_neg (by omega)]; omega
        clear hr2
        go_wp2_with fail
        go_round
        case rel => exact ⟨i + 1, r2, rfl, R2.out, T2.out⟩
        case measure => exact hm.out
end Go.Proofs.YtihggkmjalofiaaGreatDoor

/- A value in a quiet walk; a map written in a region that draws its order. No program in sight but as a variable. -/
namespace Go.Proofs.YtihggkmjalofiaaGreatDoor
open Go.RowKit

theorem wp_mapputted {P : Program} {Q : Exit → Act → World → Prop} {K : Act → World → Prop} {a : Act} {w w' : World} {d : Option Tmp} {ty t : TypeId} {pos : String} {after : Array Edge} {gd : Option (Nat × Bool)} {m x y : Operand} {mv kv v : Value} (hm : a.eval m = mv) (hx : a.eval x = kv) (hy : a.eval y = v) (hr : (Instr.mapUpdate t mv kv v).run P w = .ok () w')
    (h : K (a.put d undef) w') : Oper.wp P ⟨d, .mapUpdate t m x y, ty, pos, after, gd⟩ a w K Q := by
  unfold Oper.wp execOp
  simp only [hm, hx, hy, Sem.run_bind, hr, Result.andThen_ok, Sem.run_pure]
  exact h
theorem loadIntC (b o : Nat) (w : World) (n : Int) (h : w.cell? ⟨b, o, none⟩ = some (.int .i64 n)) : (Instr.loadAt 3 (.pointer (some ⟨b, o, none⟩))).run Tryz.prog w = .ok (.int .i64 n) w := by simp [go_sem, h]
end Go.Proofs.YtihggkmjalofiaaGreatDoor
