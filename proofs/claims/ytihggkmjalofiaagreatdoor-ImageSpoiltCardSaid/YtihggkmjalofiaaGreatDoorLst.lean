/- A region that is walked in its own order, one operation at a time, with no simplification of numbers. -/
import Derived.Test.YtihggkmjalofiaaGreatDoorBufs
import Derived.Test.YtihggkmjalofiaaGreatDoorIdxw
import Derived.Test.YtihggkmjalofiaaGreatDoorShaf
import Derived.Test.YtihggkmjalofiaaGreatDoorGen
import Derived.WalkMore
import Derived.ScopeJumps
namespace Go.Proofs.YtihggkmjalofiaaGreatDoor
open Go.RowKit

theorem wpL_w {P : Program} {ops : Array Oper} {rest : List Oper} {o : Oper} {a : Act} {w w' : World} {Q : Exit → Act → World → Prop} {v : Value} (hg : o.guard = none) (hx : (execOp a.eval o).run P w = .ok (.value v) w')
    (h : wpList P ops Q rest (a.put o.dst v) w') : wpList P ops Q (o :: rest) a w :=
  wpList_plain hg fun _ hK => by
    unfold Oper.wp
    rw [hx]
    exact hK _ _ h
theorem wpL_val {P : Program} {ops : Array Oper} {rest : List Oper} {o : Oper} {a : Act} {w : World} {Q : Exit → Act → World → Prop} {v : Value} (hg : o.guard = none) (hx : (execOp a.eval o).run P w = .ok (.value v) w)
    (h : wpList P ops Q rest (a.put o.dst v) w) : wpList P ops Q (o :: rest) a w := wpL_w hg hx h
theorem buildByte1 (X : UInt8) (w : World) : (Instr.buildSlice 46 1 #[(0, .int .u8 ((X.toNat : Nat) : Int))]).run Tryz.prog w = .ok (.slice (some ⟨w.heap.size, 0, none⟩) 1 1) (w.alloc (.cells #[.int .u8 ((X.toNat : Nat) : Int)] 5)) := by kernel_rfl
theorem wpList_bs1 {ops : Array Oper} {rest : List Oper} {a : Act} {w : World} {Q : Exit → Act → World → Prop} {d : Option Tmp} {ty : TypeId} {pos : String} {after : Array Edge} {x : Operand} (X : UInt8) (hx : a.eval x = .int .u8 ((X.toNat : Nat) : Int))
    (h : wpList Tryz.prog ops Q rest (a.put d (.slice (some ⟨w.heap.size, 0, none⟩) 1 1)) (w.alloc (.cells #[.int .u8 ((X.toNat : Nat) : Int)] 5))) : wpList Tryz.prog ops Q (⟨d, .buildSlice 46 1 #[(0, x)], ty, pos, after, none⟩ :: rest) a w := by
  refine wpL_w (v := .slice (some ⟨w.heap.size, 0, none⟩) 1 1) (w' := w.alloc (.cells #[.int .u8 ((X.toNat : Nat) : Int)] 5)) rfl ?_ h
  unfold execOp
  simp only [List.map_toArray, List.map_cons, List.map_nil, hx, Sem.run_bind, buildByte1, Result.andThen_ok, Sem.run_pure]
end Go.Proofs.YtihggkmjalofiaaGreatDoor

/- The sum of bytes: walked. -/
namespace Go.Proofs.YtihggkmjalofiaaGreatDoor
open Go.RowKit

abbrev ShaB (w : World) : Prop := Lib.TabIs Tryz.prog w "bruit/sha.begin" .u32 (hS.map fun r => ((r.toNat : Nat) : Int))
theorem gShaB : Tryz.prog.globalNamed "bruit/sha.begin" = some 0 := by kernel_rfl
theorem shaB_lt {w : World} (h : ShaB w) : 0 < w.heap.size := by
  rcases Nat.lt_or_ge 0 w.heap.size with h0 | h0
  · exact h0
  · unfold ShaB Lib.TabIs World.var? at h
    rw [gShaB] at h
    simp [Array.getElem?_eq_none h0] at h
theorem shaB_ext {w w' : World} (h : ShaB w) (hb : Below w.heap.size w w') : ShaB w' := by
  have he := hb.block 0 (shaB_lt h)
  unfold ShaB Lib.TabIs at *
  rw [← h]
  unfold World.var?
  rw [gShaB]
  simp only [Option.bind_some, he]
theorem shaB_cell {w : World} (h : ShaB w) {k : Nat} (hk : k < 8) : w.cell? ⟨0, k, none⟩ = some (u32S (atS hS k)) := by
  have hl : k < hS.length := hk
  rw [Lib.TabIs.cell h gShaB k (by rw [List.length_map]; exact hl)]
  unfold u32S atS
  rw [List.getD_eq_getElem?_getD, List.getElem?_map, List.getD_eq_getElem?_getD, List.getElem?_eq_getElem hl]
  rfl
theorem shaB_range {w : World} (h : ShaB w) : w.rangeAt 0 0 (cellsS hS).toList := fun j v hv => by
  have hj : j < 8 := by
    have := (List.getElem?_eq_some_iff.1 hv).1
    rw [Array.length_toList, cellsS_size] at this
    exact this
  rw [Nat.zero_add, shaB_cell h hj, ← hv, Array.getElem?_toList]
  unfold cellsS
  rw [List.getElem?_toArray, List.getElem?_map, atS_get (s := hS) (by exact hj)]
  rfl
section
variable {P : Program} {ρ : Operand → Value} {d : Option Tmp} {ty s t : TypeId} {x : Operand} {pos : String} {after : Array Edge} {gd : Option (Nat × Bool)} {v xv : Value} {w : World}
theorem exRow_sh {g : Nat} {tb : TypeId} {cs : Array Value} {D : TypeDesc} (hx : ρ x = .pointer (some ⟨g, 0, none⟩)) (hB : Blk w g tb cs) (hu : P.underlying s = some D) (hd : D.isRow = true) (hi : (P.info? s).map (·.size) = some cs.size) :
    (execOp ρ ⟨d, .load s x, ty, pos, after, gd⟩).run P w = .ok (.value (.agg cs)) w := by
  have h := exMid (P := P) (ρ := ρ) (w := w) (d := d) (ty := ty) (pos := pos) (after := after) (gd := gd) (s := s) (x := x) (cs := cs.toList) hx (fun j v hv => by rw [Nat.zero_add, hB.cell, ← Array.getElem?_toList]; exact hv) hu hd (by simpa using hi)
  simpa using h
theorem exSlice_sh {lo hi mx : Option Operand} {lv hv mv : Option Value} (hx : ρ x = xv) (hl : lo.map ρ = lv) (hh : hi.map ρ = hv) (hm : mx.map ρ = mv) (hr : (Instr.sliceAt t xv lv hv mv).run P w = .ok v w) :
    (execOp ρ ⟨d, .slice t x lo hi mx, ty, pos, after, gd⟩).run P w = .ok (.value v) w := by
  unfold execOp; simp only [hx, hl, hh, hm, Sem.run_bind, hr, Result.andThen_ok, Sem.run_pure]
end
theorem wp_scope_with {P : Program} {a : Act} {w : World} {Q : Exit → Act → World → Prop} {c rest : Code} (l : Nat) (J : Act → World → Prop) (μ : Act → World → Nat) (hf : findLabel c l = some (Code.skip.seq rest))
    (core : ∀ a w, J a w → rest.wp P (Exit.jump l (fun a' w' => J a' w' ∧ μ a' w' < μ a w) Q) a w)
    (first : (∀ a w, J a w → rest.wp P (Exit.jump l J Q) a w) → c.wp P (Exit.jump l J Q) a w) : (Code.scope c).wp P Q a w :=
  wp_scope_jumps l J μ hf (first fun a w h => wp_mono (core a w h) fun e a' w' hq => by
    cases e with
    | goto l' => exact ⟨hq.1, hq.2.1⟩
    | _ => exact hq) fun a w h => wp_seq (wp_skip (core a w h))
/-- the padded message, so far -/
def padT (l : List UInt8) (k : Nat) : List UInt8 := l ++ [128] ++ List.replicate k 0
theorem padT_next (l : List UInt8) (k : Nat) : padT l (k + 1) = padT l k ++ [0] := by
  unfold padT
  rw [List.replicate_succ', ← List.append_assoc]
theorem padT_all (l : List UInt8) : padT l (zerosS l.length) ++ lenS l.length = padS l := rfl
theorem zeros_test (n k : Nat) (hk : k ≤ zerosS n) : ((n + 1 + k) % 64 = 56) ↔ k = zerosS n := by
  unfold zerosS at *
  omega
theorem zeros_le (n : Nat) : zerosS n ≤ 63 := by unfold zerosS; omega
theorem lenS_next (n j : Nat) (h : j < 8) : (lenS n).take (j + 1) = (lenS n).take j ++ [UInt8.ofNat (n * 8 / 256 ^ (7 - j))] := by
  rw [List.take_add_one]
  congr 1
  unfold lenS
  rw [List.getElem?_map, List.getElem?_range h]
  rfl
theorem lenS_all (n : Nat) : (lenS n).take 8 = lenS n := List.take_of_length_le (by rw [lenS_len]; exact Nat.le_refl _)
theorem encB_appS (a b : List UInt8) : encB (a ++ b) = encB a ++ encB b := by unfold encB; simp
theorem encB_lenS (a : List UInt8) : (encB a).length = a.length := by
  induction a with
  | nil => rfl
  | cons x l ih => rw [show encB (x :: l) = enc1 x ++ encB l from rfl, List.length_append, ih, List.length_cons]; show 1 + _ = _; omega
theorem byteV_sh (q : Nat) (w : World) : (convert 76 5 (.int .u64 ((q : Nat) : Int))).run Tryz.prog w = .ok (.int .u8 (((UInt8.ofNat q).toNat : Nat) : Int)) w := by
  have e2 : IntKind.u8.wrap ((q : Nat) : Int) = (((UInt8.ofNat q).toNat : Nat) : Int) := by
    rw [UInt8.toNat_ofNat']
    simp [IntKind.wrap, IntKind.signed, IntKind.bits]
  simp [go_sem, e2]
theorem byteU_sh (n j : Nat) (_hj : j < 8) (w : World) : (convert 76 5 (.int .u64 ((n * 8 / 256 ^ (7 - j) : Nat) : Int))).run Tryz.prog w = .ok (.int .u8 (((UInt8.ofNat (n * 8 / 256 ^ (7 - j))).toNat : Nat) : Int)) w := by
  generalize n * 8 / 256 ^ (7 - j) = q
  exact byteV_sh q w
theorem shlU_sh (n : Nat) (hn : n ≤ 1000000) (w : World) : (binOp .shl 76 (.int .u64 ((n : Nat) : Int)) (.int .u64 3)).run Tryz.prog w = .ok (.int .u64 ((n * 8 : Nat) : Int)) w := by
  have e : IntKind.u64.wrap (((n : Nat) : Int) * 8) = ((n * 8 : Nat) : Int) := by
    simp [IntKind.wrap, IntKind.signed, IntKind.bits]
    omega
  simp [go_sem, e]
theorem lenU_sh (n : Nat) (hn : n ≤ 1000000) (w : World) : (convert 3 76 (.int .i64 ((n : Nat) : Int))).run Tryz.prog w = .ok (.int .u64 ((n : Nat) : Int)) w := by
  have e : IntKind.u64.wrap ((n : Nat) : Int) = ((n : Nat) : Int) := by
    simp [IntKind.wrap, IntKind.signed, IntKind.bits]
    omega
  simp [go_sem, e]
theorem addU_sh (x y z : Nat) (hz : z = x + y) (hn : z ≤ 1000000) (w : World) : (binOp .add 76 (.int .u64 ((x : Nat) : Int)) (.int .u64 ((y : Nat) : Int))).run Tryz.prog w = .ok (.int .u64 ((z : Nat) : Int)) w := by
  have e : IntKind.u64.wrap (((x : Nat) : Int) + ((y : Nat) : Int)) = ((z : Nat) : Int) := by
    rw [hz]
    simp [IntKind.wrap, IntKind.signed, IntKind.bits]
    omega
  simp [go_sem, e]
theorem pow_sh (j : Nat) (hj : j < 8) : 256 ^ (7 - j) = 2 ^ (56 - 8 * j) := by
  rw [show (256 : Nat) = 2 ^ 8 from rfl, ← Nat.pow_mul]
  congr 1
  omega
theorem shrV_sh (x m : Nat) (hm : m < 64) (w : World) : (binOp .shr 76 (.int .u64 ((x : Nat) : Int)) (.int .u64 ((m : Nat) : Int))).run Tryz.prog w = .ok (.int .u64 ((x / 2 ^ m : Nat) : Int)) w := by
  have h2 : ((m : Nat) : Int).toNat = m := by omega
  have e : ((x : Nat) : Int) / 2 ^ m = ((x / 2 ^ m : Nat) : Int) := by norm_cast
  rw [← e]
  simp [go_sem, h2]
theorem shrU_sh (n j : Nat) (hj : j < 8) (w : World) : (binOp .shr 76 (.int .u64 ((n * 8 : Nat) : Int)) (.int .u64 ((56 - 8 * j : Nat) : Int))).run Tryz.prog w = .ok (.int .u64 ((n * 8 / 256 ^ (7 - j) : Nat) : Int)) w := by
  rw [pow_sh j hj]
  exact shrV_sh (n * 8) (56 - 8 * j) (by omega) w
theorem atU_sh (m : Nat) (hm : m ≤ 64) (w : World) : (convert 3 237 (.int .i64 ((m : Nat) : Int))).run Tryz.prog w = .ok (.int .u64 ((m : Nat) : Int)) w := by
  have e : IntKind.u64.wrap ((m : Nat) : Int) = ((m : Nat) : Int) := by
    simp [IntKind.wrap, IntKind.signed, IntKind.bits]
    omega
  simp [go_sem, e]
/-- a cell of a row of the call's own -/
theorem own_blk_sh {w : World} {base N : Nat} {v : Value} {l : List UInt8} (h : w.ownsRow base 5 1 v N (encB l)) (hN : 0 < N) : ∃ gp cap cur, v = .slice (some ⟨gp, 0, none⟩) N cap ∧ base ≤ gp ∧ N ≤ cap ∧ Blk w gp 5 cur ∧ ∀ (j : Nat) (x : UInt8), l[j]? = some x → cur[j]? = some (Value.int .u8 ((x.toNat : Nat) : Int)) := by
  rcases h.2 with ⟨rfl, h0⟩ | ⟨g, cap, cur, rfl, hg, hh, hnc, hrest⟩
  · exact absurd h0 (by
      have := h.1
      intro e
      rw [e] at this
      simp at this
      omega)
  · refine ⟨g, cap, cur, rfl, hg, hnc, hh, fun j x hj => ?_⟩
    have h1 := h.cellAt j (by
      have := (List.getElem?_eq_some_iff.1 hj).1
      have h2 := h.1
      rw [encB_lenS] at h2
      omega)
    rw [Blk.cell hh] at h1
    rw [h1, encB_at, hj]
    rfl
def outN (h : List W32) (i : Nat) : List UInt8 := (outS h).take i ++ List.replicate (32 - i) 0
theorem outN_all (h : List W32) : outN h 32 = outS h := by unfold outN; rw [List.take_of_length_le (by rw [outS_len]; exact Nat.le_refl _)]; simp
theorem outN_len (h : List W32) {i : Nat} (hi : i ≤ 32) : (outN h i).length = 32 := by
  unfold outN
  rw [List.length_append, List.length_take, outS_len, List.length_replicate]
  omega
theorem outN_set (h : List W32) {i : Nat} (hi : i < 32) : (outN h i).set i (UInt8.ofNat ((atS h (i / 4) >>> (24 - 8 * (i % 4))).toNat)) = outN h (i + 1) := by
  unfold outN
  have hl : ((outS h).take i).length = i := by rw [List.length_take, outS_len]; omega
  rw [List.set_append_right _ _ (by omega), hl, Nat.sub_self, show 32 - i = (32 - (i + 1)) + 1 by omega, List.replicate_succ, List.set_cons_zero, List.take_add_one]
  have : (outS h)[i]? = some (UInt8.ofNat ((atS h (i / 4) >>> (24 - 8 * (i % 4))).toNat)) := by
    unfold outS
    rw [List.getElem?_map, List.getElem?_range hi]
    rfl
  rw [this, Option.toList_some, List.append_assoc]
  rfl
def bytesS (l : List UInt8) : Array Value := (encB l).toArray
theorem encB_mapS (l : List UInt8) : encB l = l.map fun x => Value.int .u8 ((x.toNat : Nat) : Int) := by
  induction l with
  | nil => rfl
  | cons x l ih => rw [show encB (x :: l) = enc1 x ++ encB l from rfl, ih]; rfl
theorem bytesS_set (l : List UInt8) (i : Nat) (x : UInt8) : (bytesS l).setIfInBounds i (.int .u8 ((x.toNat : Nat) : Int)) = bytesS (l.set i x) := by
  unfold bytesS
  rw [encB_mapS, encB_mapS, List.map_set]
  simp
theorem bytesS_size (l : List UInt8) : (bytesS l).size = l.length := by unfold bytesS; simp [encB_lenS]
theorem bytesS_one (l : List UInt8) : (bytesS l).all (·.oneCell') = true := by
  unfold bytesS
  rw [encB_mapS, Array.all_eq_true']
  intro v hv
  rw [List.mem_toArray, List.mem_map] at hv
  obtain ⟨x, _, rfl⟩ := hv
  rfl
theorem infoB32 : (Tryz.prog.info? 37).map (·.size) = some 32 := by kernel_rfl
theorem allocB32 (w : World) : (Instr.alloc 37 true (.tuple #[])).run Tryz.prog w = .ok (.pointer (some ⟨w.heap.size, 0, none⟩)) (w.alloc (.cells (bytesS (List.replicate 32 0)) 37)) := by kernel_rfl
theorem index32_sh (g k : Nat) (hk : k < 32) (w : World) : (Instr.indexAt 37 (.pointer (some ⟨g, 0, none⟩)) (.int .i64 ((k : Nat) : Int))).run Tryz.prog w = .ok (.pointer (some ⟨g, k, none⟩)) w := by
  have h1 : ((k : Nat) : Int) < 32 := by omega
  simp [go_sem, h1]
theorem storeB_sh (g i : Nat) (x : UInt8) (w : World) {u : Value} (h : w.cell? ⟨g, i, none⟩ = some u) (hf : w.frozen? ⟨g, i, none⟩ = false) : (Instr.storeAt 5 (.pointer (some ⟨g, i, none⟩)) (.int .u8 ((x.toNat : Nat) : Int))).run Tryz.prog w = .ok () (w.setCell ⟨g, i, none⟩ (.int .u8 ((x.toNat : Nat) : Int))) := by
  simp [go_sem, h, hf]
theorem quo4_sh (i : Nat) (hi : i ≤ 64) (w : World) : (binOp .quo 3 (.int .i64 ((i : Nat) : Int)) (.int .i64 4)).run Tryz.prog w = .ok (.int .i64 ((i / 4 : Nat) : Int)) w := by
  have e : (((i : Nat) : Int)).tdiv 4 = ((i / 4 : Nat) : Int) := by rw [Int.tdiv_eq_ediv_of_nonneg (by omega)]; omega
  have e2 : IntKind.i64.wrap ((i : Int) / 4) = (i : Int) / 4 := by rw [IntKind.wrap_i64] <;> omega
  simp [go_sem, e, e2]
theorem rem4_sh (i m : Nat) (hm : 0 < m) (w : World) : (binOp .rem 3 (.int .i64 ((i : Nat) : Int)) (.int .i64 ((m : Nat) : Int))).run Tryz.prog w = .ok (.int .i64 ((i % m : Nat) : Int)) w := by
  have e : (((i : Nat) : Int)).tmod ((m : Nat) : Int) = ((i % m : Nat) : Int) := by rw [Int.tmod_eq_emod_of_nonneg (by omega)]; exact (Int.natCast_emod i m).symm
  have hz2 : ¬ m = 0 := by omega
  simp [go_sem, e, hz2]
theorem ne56_sh (x : Nat) (b : Bool) (h : decide (x = 56) = !b) (w : World) : (binOp .neq 3 (.int .i64 ((x : Nat) : Int)) (.int .i64 56)).run Tryz.prog w = .ok (.bool b) w := by
  have e : (((x : Nat) : Int) != 56) = b := by
    have h2 : b = !decide (x = 56) := by rw [h]; simp
    rw [h2]
    by_cases q : x = 56
    · simp [q]
    · have q2 : ¬ ((x : Nat) : Int) = 56 := by omega
      simp [q, q2]
  simp [go_sem, e]
theorem mul8_sh (x : Nat) (hx : x ≤ 8) (w : World) : (binOp .mul 3 (.int .i64 8) (.int .i64 ((x : Nat) : Int))).run Tryz.prog w = .ok (.int .i64 ((8 * x : Nat) : Int)) w := by
  have e : IntKind.i64.wrap (8 * ((x : Nat) : Int)) = ((8 * x : Nat) : Int) := by rw [IntKind.wrap_i64] <;> omega
  simp [go_sem, e]
theorem sub24_sh (x : Nat) (hx : x ≤ 24) (w : World) : (binOp .sub 3 (.int .i64 24) (.int .i64 ((x : Nat) : Int))).run Tryz.prog w = .ok (.int .i64 ((24 - x : Nat) : Int)) w := by
  have e : IntKind.i64.wrap (24 - ((x : Nat) : Int)) = ((24 - x : Nat) : Int) := by rw [IntKind.wrap_i64] <;> omega
  simp [go_sem, e]

set_option maxRecDepth 100000 in
set_option maxHeartbeats 32000000 in
/-- the sum of one part -/
theorem sum_any (l : List UInt8) (w : World) (g c1 : Nat) (A : Option Addr) (n c : Nat) (hp : w.cell? ⟨g, 0, none⟩ = some (.slice A n c)) (hg : g < w.heap.size) (hb : BytesAt w A n c l) (hm : n ≤ 1000000) (hK : ShaK w) (hB : ShaB w) :
    Calls Tryz.prog 61 #[.slice (some ⟨g, 0, none⟩) 1 c1] w (RetB w (.agg (bytesS (sumS kS hS l)))) := by
  have HL := Lib.hid hb.len
  have HS := Lib.hid hb.sl
  have HK := Lib.hid hK
  have HB := Lib.hid hB
  have HP := Lib.hid hp
  have HG := Lib.hid hg
  clear hb hK hB hp hg
  have K2a : Hid (Blk (w.alloc (.cells (bytesS (List.replicate 32 0)) 37)) w.heap.size 37 (bytesS (List.replicate 32 0))) := Blk.new _ _ _
  have B0a : Hid (Below w.heap.size w (w.alloc (.cells (bytesS (List.replicate 32 0)) 37))) := below_new _ _
  go_enter Tryz.func61, Tryz.ntmps61
  go_wp2_with fail
  obtain ⟨wa, hwa⟩ : ∃ x, x = w.alloc (.cells (bytesS (List.replicate 32 0)) 37) := ⟨_, rfl⟩
  rw [← hwa] at K2a B0a
  have HWA := Lib.hid hwa
  clear hwa
  obtain ⟨g2, hg2⟩ : ∃ x, x = w.heap.size := ⟨_, rfl⟩
  obtain ⟨g3, hg3⟩ : ∃ x, x = wa.heap.size := ⟨_, rfl⟩
  have HG2 := Lib.hid hg2
  have HG3 := Lib.hid hg3
  clear hg2 hg3
  rw [← HG2.out] at K2a
  have KZ : Hid (Blk (wa.alloc (.cells (cellsS (List.replicate 8 0#32)) 236)) g3 236 (cellsS (List.replicate 8 0#32))) := by rw [HG3.out]; exact Blk.new _ _ _
  obtain ⟨w1, hw1⟩ : ∃ x, x = (wa.alloc (.cells (cellsS (List.replicate 8 0#32)) 236)).setRow g3 (cellsS hS) := ⟨_, rfl⟩
  have HW1 := Lib.hid hw1
  clear hw1
  have K30 : Hid (Blk w1 g3 236 (cellsS hS)) := by rw [HW1.out]; exact KZ.out.row _
  have BN : Hid (Below wa.heap.size wa w1) := by rw [HW1.out]; exact below_setRow (below_new wa _) (by rw [HG3.out]; exact Nat.le_refl _) _
  have K20 := Lib.hid (K2a.out.ext BN.out)
  have B0 := Lib.hid (B0a.out.trans (BN.out.mono B0a.out.size))
  have GO : Hid (w.heap.size ≤ g2 ∧ w.heap.size ≤ g3 ∧ g2 ≠ g3 ∧ g2 < w1.heap.size ∧ g3 < w1.heap.size) := by
    have h1 := K2a.out.lt
    have h2 := K20.out.lt
    have h3 := K30.out.lt
    have h4 := HG2.out
    have h5 := HG3.out
    have h6 := B0a.out.size
    rw [Hid]
    omega
  refine wp_scope_with 0 (fun a' w' => ∃ (k : Nat) (pv v5 u1 u6 u7 u8 u9 u10 u11 u12 u13 u14 u15 u16 u17 u18 u19 u20 u21 u22 u23 u24 u25 u26 u27 u28 u29 u30 u31 u32 u33 u34 u35 u36 u37 u38 u39 u40 u41 u42 u43 u44 u45 u46 u47 u48 u49 u50 u51 u52 u53 u54 u55 u56 u57 u58 u59 u60 u61 u62 u63 u64 u65 u66 u67 u68 u69 u70 u71 u72 u73 u74 u75 u76 : Value), a' = { tmps := List.toArray (pv :: u1 :: .pointer (some ⟨g2, 0, none⟩) :: .pointer (some ⟨g3, 0, none⟩) :: .int .u64 ((n : Nat) : Int) :: v5 :: u6 :: u7 :: u8 :: u9 :: u10 :: u11 :: u12 :: u13 :: u14 :: u15 :: u16 :: u17 :: u18 :: u19 :: u20 :: u21 :: u22 :: u23 :: u24 :: u25 :: u26 :: u27 :: u28 :: u29 :: u30 :: u31 :: u32 :: u33 :: u34 :: u35 :: u36 :: u37 :: u38 :: u39 :: u40 :: u41 :: u42 :: u43 :: u44 :: u45 :: u46 :: u47 :: u48 :: u49 :: u50 :: u51 :: u52 :: u53 :: u54 :: u55 :: u56 :: u57 :: u58 :: u59 :: u60 :: u61 :: u62 :: u63 :: u64 :: u65 :: u66 :: u67 :: u68 :: u69 :: u70 :: u71 :: u72 :: u73 :: u74 :: u75 :: u76 :: []), defers := [] } ∧ k ≤ zerosS n ∧ Hid (w'.ownsRow w1.heap.size 5 1 v5 (n + 1 + k) (encB (padT l k))) ∧ Hid (Below w1.heap.size w1 w')) (fun a' _ => match a'.tmps.getD 5 undef with | .slice _ m _ => n + 200 - m | _ => 0) rfl ?_ ?_
  · -- behind the label
    rintro a' wr ⟨k, pv, v5, u1, u6, u7, u8, u9, u10, u11, u12, u13, u14, u15, u16, u17, u18, u19, u20, u21, u22, u23, u24, u25, u26, u27, u28, u29, u30, u31, u32, u33, u34, u35, u36, u37, u38, u39, u40, u41, u42, u43, u44, u45, u46, u47, u48, u49, u50, u51, u52, u53, u54, u55, u56, u57, u58, u59, u60, u61, u62, u63, u64, u65, u66, u67, u68, u69, u70, u71, u72, u73, u74, u75, u76, rfl, hk, O, B⟩
    have hz63 := zeros_le n
    obtain ⟨A5, c5, hv5, hc5, -⟩ := Sl.of_own O.out
    subst hv5
    by_cases hkz : k = zerosS n
    · have ht : (n + 1 + k) % 64 = 56 := (zeros_test n k hk).2 hkz
      subst hkz
      go_upto_region 10 with fail
      refine wp_region_lit ?_
      refine wpL_val rfl (exMove (v := .slice A5 (n + 1 + zerosS n) c5) rfl) ?_
      simp only [Act.put, List.setIfInBounds_toArray, List.set_cons_zero, List.set_cons_succ]
      refine wpL_val rfl (exLen Tryz.underlying46 rfl) ?_
      simp only [Act.put, List.setIfInBounds_toArray, List.set_cons_zero, List.set_cons_succ]
      refine wpL_val rfl (exBin (v := .int .i64 (((n + 1 + zerosS n) % 64 : Nat) : Int)) rfl rfl (by rfl) (rem4_sh ((n + 1 + zerosS n)) 64 (by omega) _)) ?_
      simp only [Act.put, List.setIfInBounds_toArray, List.set_cons_zero, List.set_cons_succ]
      refine wpL_val rfl (exBin (v := .bool false) rfl rfl (by rfl) (ne56_sh ((n + 1 + zerosS n) % 64) false (decide_eq_true ht) _)) ?_
      simp only [Act.put, List.setIfInBounds_toArray, List.set_cons_zero, List.set_cons_succ]
      refine wpList_nil ?_
      go_upto_region 12 with fail
      have hzn := zeros_le n
      generalize hzz : zerosS n = z at *
      have HZ : Hid (padT l z ++ lenS n = padS l) := by rw [Hid, ← padT_all, HL.out, hzz]
      have hmod : (n + 1 + z + 8) % 64 = 0 := by have := ht; omega
      clear hzz ht
      go_wp2_with fail
      go_loopw [5, 8] (fun v iv wr => ∃ j : Nat, j ≤ 8 ∧ iv = .int .i64 (56 - 8 * ((j : Nat) : Int)) ∧ Hid (wr.ownsRow w1.heap.size 5 1 v (n + 1 + z + j) (encB (padT l z ++ (lenS n).take j))) ∧ Hid (Below w1.heap.size w1 wr)) (fun _ iv _ => (intOf iv + 8).toNat)
      case atStart => exact ⟨0, by omega, rfl, by rw [List.take_zero, List.append_nil]; exact O.out, B.out⟩
      case round =>
        clear O B
        obtain ⟨j, hj, rfl, O, B⟩ := hrel
        have hb1 : w1.heap.size ≤ wr.heap.size := B.out.size
        by_cases hj8 : j < 8
        · have hge : (0 : Int) ≤ 56 - 8 * (j : Int) := by omega
          have eat : (56 : Int) - 8 * (j : Int) = ((56 - 8 * j : Nat) : Int) := by omega
          have LN := Lib.hid (lenS_next n j hj8)
          rw [eat] at hge ⊢
          have eat2 : Hid (((56 - 8 * j : Nat) : Int) - 8 = 56 - 8 * ((j + 1 : Nat) : Int)) := by rw [Hid]; omega
          clear eat
          obtain ⟨at', hat⟩ : ∃ x, x = 56 - 8 * j := ⟨_, rfl⟩
          have SH := Lib.hid (fun u : World => shrU_sh n j hj8 u)
          rw [← hat] at hge SH eat2 ⊢
          have ha64 : at' ≤ 64 := by omega
          have hw8 : IntKind.i64.wrap ((at' : Int) - 8) = (at' : Int) - 8 := by rw [IntKind.wrap_i64] <;> omega
          have hms : Hid (8 ≤ at' + 8 ∧ ((at' : Int) - 8 + 8).toNat < ((at' : Int) + 8).toNat) := by rw [Hid]; omega
          clear hat
          obtain ⟨q, hq⟩ : ∃ q, q = n * 8 / 256 ^ (7 - j) := ⟨_, rfl⟩
          have BU := Lib.hid (fun u : World => byteU_sh n j hj8 u)
          rw [← hq] at SH BU LN
          clear hq
          obtain ⟨A5, c5, hv5, hc5, -⟩ := Sl.of_own O.out
          subst hv5
          go_upto_region 15 with fail
          refine wp_region_lit ?_
          refine wpL_val rfl (exMove (v := .slice A5 (n + 1 + z + j) c5) rfl) ?_
          simp only [Act.put, List.setIfInBounds_toArray, List.set_cons_zero, List.set_cons_succ]
          refine wpL_val rfl (exMove (v := .int .u64 ((n : Nat) : Int)) rfl) ?_
          simp only [Act.put, List.setIfInBounds_toArray, List.set_cons_zero, List.set_cons_succ]
          refine wpL_val rfl (exBin (v := .int .u64 ((n * 8 : Nat) : Int)) rfl rfl (by rfl) (shlU_sh n hm _)) ?_
          simp only [Act.put, List.setIfInBounds_toArray, List.set_cons_zero, List.set_cons_succ]
          refine wpL_val rfl (exMove (v := .int .i64 ((at' : Nat) : Int)) rfl) ?_
          simp only [Act.put, List.setIfInBounds_toArray, List.set_cons_zero, List.set_cons_succ]
          refine wpL_val rfl (exConv_sh (v := .int .u64 ((at' : Nat) : Int)) rfl (atU_sh at' ha64 _)) ?_
          simp only [Act.put, List.setIfInBounds_toArray, List.set_cons_zero, List.set_cons_succ]
          refine wpL_val rfl (exBin (v := .int .u64 ((q : Nat) : Int)) rfl rfl (by rfl) (SH.out _)) ?_
          simp only [Act.put, List.setIfInBounds_toArray, List.set_cons_zero, List.set_cons_succ]
          refine wpL_val rfl (exConv_sh (v := .int .u8 (((UInt8.ofNat q).toNat : Nat) : Int)) rfl (BU.out _)) ?_
          simp only [Act.put, List.setIfInBounds_toArray, List.set_cons_zero, List.set_cons_succ]
          refine wpList_bs1 (UInt8.ofNat q) rfl ?_
          simp only [Act.put, List.setIfInBounds_toArray, List.set_cons_zero, List.set_cons_succ]
          refine wpList_push byteSl O.out [.int .u8 (((UInt8.ofNat q).toNat : Nat) : Int)] rfl (by simp [Value.oneCell']) hb1 (by omega) (by unfold maxLen; omega) (by rfl) (by rfl) (by rfl) ?_
          intro v9 w9 own1 bel1
          simp only [Act.put, List.setIfInBounds_toArray, List.set_cons_zero, List.set_cons_succ]
          refine wpL_val rfl (exAssign (v := v9) rfl) ?_
          simp only [Act.put, List.setIfInBounds_toArray, List.set_cons_zero, List.set_cons_succ]
          refine wpList_nil ?_
          have O2 : Hid (w9.ownsRow w1.heap.size 5 1 v9 (n + 1 + z + (j + 1)) (encB (padT l z ++ (lenS n).take (j + 1)))) := by
            rw [LN.out, ← List.append_assoc, encB_appS]
            exact own1
          have B2 := Lib.hid (B.out.trans bel1)
          clear own1 bel1 O B
          go_wp2_with fail
          go_roundw
          case rel => exact ⟨j + 1, by omega, by rw [← eat2.out], O2.out, B2.out⟩
          case measure => simp only [intOf]; exact hms.out.2
        · have hge : ¬ (0 : Int) ≤ 56 - 8 * (j : Int) := by omega
          obtain rfl : j = 8 := by omega
          rw [lenS_all, HZ.out] at O
          obtain ⟨N, hN⟩ : ∃ N, N = n + 1 + z + 8 := ⟨_, rfl⟩
          rw [← hN] at O hmod
          obtain ⟨gp, cap, cur, rfl, hgp, hcap, KP, FP⟩ := own_blk_sh O.out (by omega)
          have KP := Lib.hid KP
          have FP := Lib.hid FP
          have HNl : Hid ((padS l).length = N) := by have := O.out.1; rw [encB_lenS, Nat.mul_one] at this; exact this
          have hgp3 : Hid (gp ≠ g2 ∧ gp ≠ g3) := by have := GO.out; rw [Hid]; omega
          have hN64 : N ≤ n + 72 := by omega
          clear O HZ hN hgp
          go_wp2_with fail
          have K3 := Lib.hid (K30.out.ext B.out)
          have K2 := Lib.hid (K20.out.ext B.out)
          have B := Lib.hid (B0.out.trans (B.out.mono (by have := B0.out.size; exact this)))
          go_loopw [5] (fun v wr => ∃ (i r : Nat) (Ai : Option Addr) (ci : Nat), v = .slice Ai r ci ∧ Hid (r + 64 * i = N) ∧ r ≤ ci ∧ Hid (0 < r → Ai = some ⟨gp, 64 * i, none⟩) ∧ Hid (Blk wr g3 236 (cellsS (blocksS kS hS (padS l) i))) ∧ Hid (Blk wr g2 37 (bytesS (List.replicate 32 0))) ∧ Hid (Blk wr gp 5 cur) ∧ Hid (Below w.heap.size w wr)) (fun v _ => match v with | .slice _ m _ => m | _ => 0)
          case atStart => exact ⟨0, N, some ⟨gp, 0, none⟩, cap, rfl, by rw [Hid]; omega, hcap, fun _ => rfl, K3.out, K2.out, KP.out, B.out⟩
          case round =>
            clear K3 K2 KP B
            obtain ⟨i, r, Ai, ci, rfl, HR, hci, HA, KS, K2, KP, B⟩ := hrel
            by_cases hlt : 0 < r
            · have hr64 : 64 ≤ r := by have := HR.out; omega
              have hpos : (0 : Int) < (r : Int) := by omega
              obtain ⟨hs, hhs⟩ : ∃ x, x = blocksS kS hS (padS l) i := ⟨_, rfl⟩
              obtain ⟨bl, hbl⟩ : ∃ x, x = ((padS l).drop (64 * i)).take 64 := ⟨_, rfl⟩
              have HHs : Hid (hs.length = 8) := by rw [Hid, hhs]; exact blocksS_len rfl _ _
              have HBl : Hid (bl.length = 64) := by rw [Hid, hbl, List.length_take, List.length_drop, HNl.out]; have := HR.out; omega
              have HST : Hid (blockS kS hs bl = blocksS kS hS (padS l) (i + 1)) := by rw [Hid, blocksS, hhs, hbl]
              have SB : Hid (Sl wr wr.heap.size 1 (cutAddr Ai ci 0 1) 64 (encB bl)) := by
                refine ⟨by rw [encB_lenS, HBl.out], fun _ => ⟨gp, 64 * i, ?_, KP.out.lt, fun j hj => ?_⟩⟩
                · rw [HA.out hlt]
                  unfold cutAddr
                  rw [if_neg (by omega)]
                  simp [Addr.add_mid]
                · have h1 : bl[j]? = (padS l)[64 * i + j]? := by rw [hbl, List.getElem?_take, if_pos (by omega), List.getElem?_drop]
                  obtain ⟨x, hx⟩ : ∃ x, (padS l)[64 * i + j]? = some x := ⟨_, List.getElem?_eq_getElem (by rw [HNl.out]; have := HR.out; omega)⟩
                  rw [KP.out.cell, FP.out _ _ hx, encB_at, h1, hx]
                  rfl
              rw [← hhs] at KS
              clear hhs hbl
              go_upto_region 18 with fail
              refine wp_region_Z (S := fun w' => Below wr.heap.size wr w') (Z := [4]) mixedS ?_
              have BD : Hid (Below wr.heap.size wr wr.drew) := (Below.refl _ _).drew
              generalize wr.drew = wd at *
              simp only [List.size_toArray, List.length_cons, List.length_nil]
              refine zV (i := 0) rfl (by kernel_rfl) (by kernel_rfl) (by kernel_rfl) (by kernel_rfl) (by kernel_rfl) (fun _ _ _ h => h) rfl (fun w' h => exRow_sh rfl (KS.out.ext h) Tryz.underlying236 rfl (by rw [infoS8, cellsS_size, HHs.out])) BD.out ?_
              simp only [Act.put, List.setIfInBounds_toArray, List.set_cons_zero, List.set_cons_succ]
              refine zLight (i := 1) rfl (by kernel_rfl) (by kernel_rfl) (by kernel_rfl) (by kernel_rfl) (fun _ _ _ h => h) rfl (fun _ => exMove (v := .slice Ai r ci) rfl) (fun _ => BD.out) ?_
              simp only [Act.put, List.setIfInBounds_toArray, List.set_cons_zero, List.set_cons_succ]
              refine zLight (i := 2) rfl (by kernel_rfl) (by kernel_rfl) (by kernel_rfl) (by kernel_rfl) (fun _ _ _ h => h) rfl (fun w' => exSlice_sh (v := .slice (cutAddr Ai ci 0 1) 64 ci) rfl rfl rfl rfl (run_slice_high byteSl (k := 64) (by omega) w')) (fun _ => BD.out) ?_
              simp only [Act.put, List.setIfInBounds_toArray, List.set_cons_zero, List.set_cons_succ]
              refine wpAnyZ_all (rs := [3]) (by kernel_rfl) (by simp) ?_
              intro i hi
              simp only [List.mem_cons, List.not_mem_nil, or_false] at hi
              subst hi
              refine wpOp_of rfl rfl (wp_called (args := #[.agg (cellsS hs), .slice (cutAddr Ai ci 0 1) 64 ci]) (enters_of Tryz.func143 (by kernel_rfl) rfl) (by simp only [List.map_toArray, List.map_cons, List.map_nil]; rfl) (block_any hs HHs.out bl wd _ ci ((SB.out.below BD.out (Nat.le_refl _)).more BD.out.size) HBl.out (shaK_ext HK.out (B.out.trans (BD.out.mono B.out.size)))) ?_)
              rintro _ w2 ⟨rfl, bb⟩
              have BE := Lib.hid (ext_trans BD.out bb)
              clear bb
              refine ⟨_, rfl, fun _ => BE.out, ?_⟩
              simp only [Act.put, List.setIfInBounds_toArray, List.set_cons_zero, List.set_cons_succ]
              refine wpAnyZ_all (rs := [4]) (by kernel_rfl) (by simp) ?_
              intro i hi
              simp only [List.mem_cons, List.not_mem_nil, or_false] at hi
              subst hi
              refine wpOp_of rfl rfl (wp_stored (cs := cellsS (blockS kS hs bl)) rfl rfl (KS.out.ext BE.out) (by rw [infoS8, cellsS_size, blockS_len]) (by rw [cellsS_size, cellsS_size, blockS_len, HHs.out]) (cellsS_one _) ?_)
              refine ⟨noZ (by kernel_rfl), ?_⟩
              refine wpAnyZ_done (by kernel_rfl) ?_ _
              have K32 : Hid (Blk (w2.setRow g3 (cellsS (blockS kS hs bl))) g3 236 (cellsS (blocksS kS hS (padS l) (i + 1)))) := by rw [← HST.out]; exact (KS.out.ext BE.out).row _
              have K22 := Lib.hid ((K2.out.ext BE.out).rowFar GO.out.2.2.1 (cellsS (blockS kS hs bl)))
              have KP2 := Lib.hid ((KP.out.ext BE.out).rowFar hgp3.out.2 (cellsS (blockS kS hs bl)))
              have B2 := Lib.hid (below_setRow (B.out.trans (BE.out.mono B.out.size)) GO.out.2.1 (cellsS (blockS kS hs bl)))
              clear KS K2 KP B BD BE SB HST HHs HBl
              generalize w2.setRow g3 (cellsS (blockS kS hs bl)) = we at *
              have HA2 : Hid (0 < r - 64 → cutAddr Ai ci 64 1 = some ⟨gp, 64 * (i + 1), none⟩) := fun h => by
                rw [HA.out hlt]
                unfold cutAddr
                rw [if_neg (by omega)]
                simp [Addr.add_mid] <;> omega
              go_wp2_with (refine wpList_slB rfl rfl rfl rfl (run_slice_low byteSl (k := 64) (by omega) _) ?_)
              go_roundw
              case rel => exact ⟨i + 1, r - 64, cutAddr Ai ci 64 1, ci - 64, rfl, by have := HR.out; rw [Hid]; omega, by omega, HA2.out, K32.out, K22.out, KP2.out, B2.out⟩
              case measure => simp; omega
            · have hN2 : N = 64 * i := by have := HR.out; omega
              obtain rfl : r = 0 := by omega
              have HF : Hid (outS (blocksS kS hS (padS l) i) = sumS kS hS l) := by
                unfold sumS
                rw [Hid, HNl.out, hN2, Nat.mul_div_cancel_left _ (by omega)]
              obtain ⟨hs, hhs⟩ : ∃ x, x = blocksS kS hS (padS l) i := ⟨_, rfl⟩
              have HHs : Hid (hs.length = 8) := by rw [Hid, hhs]; exact blocksS_len rfl _ _
              rw [← hhs] at KS HF
              clear hhs hN2 HA KP FP HNl HR
              have K9 : Hid (Blk (wr.alloc (.cells (bytesS (List.replicate 32 0)) 37)) wr.heap.size 37 (bytesS (outN hs 0))) := Blk.new _ _ _
              have KS9 := Lib.hid (KS.out.alloc (.cells (bytesS (List.replicate 32 0)) 37))
              have K29 := Lib.hid (K2.out.alloc (.cells (bytesS (List.replicate 32 0)) 37))
              have B9 := Lib.hid (B.out.alloc B.out.size (.cells (bytesS (List.replicate 32 0)) 37))
              have G9 : Hid (w.heap.size ≤ wr.heap.size ∧ g3 ≠ wr.heap.size ∧ g2 ≠ wr.heap.size) := by have := KS.out.lt; have := K2.out.lt; have := B.out.size; rw [Hid]; omega
              clear KS K2 B
              go_upto_region 20 with (refine wpList_alloced (allocB32 _) ?_)
              generalize (wr.alloc (.cells (bytesS (List.replicate 32 0)) 37)) = w9 at *
              generalize wr.heap.size = g9 at *
              go_wp2_with fail
              go_loopw [59] (fun iv wr => ∃ i : Nat, i ≤ 32 ∧ iv = .int .i64 ((i : Nat) : Int) ∧ Hid (Blk wr g9 37 (bytesS (outN hs i))) ∧ Hid (Blk wr g3 236 (cellsS hs)) ∧ Hid (Blk wr g2 37 (bytesS (List.replicate 32 0))) ∧ Hid (Below w.heap.size w wr)) (fun iv _ => 32 - (intOf iv).toNat)
              case atStart => exact ⟨0, Nat.zero_le _, rfl, K9.out, KS9.out, K29.out, B9.out⟩
              case round =>
                clear K9 KS9 K29 B9
                obtain ⟨i, hi, rfl, K9, KS, K2, B⟩ := hrel
                by_cases hi32 : i < 32
                · have hiz : (i : Int) < 32 := by omega
                  obtain ⟨x, hx⟩ : ∃ x, x = UInt8.ofNat ((atS hs (i / 4) >>> (24 - 8 * (i % 4))).toNat) := ⟨_, rfl⟩
                  have CU := Lib.hid (fun u : World => cut_sh (atS hs (i / 4) >>> (24 - 8 * (i % 4))) u)
                  have OS := Lib.hid (outN_set hs hi32)
                  rw [← hx] at CU OS
                  have C9 : Hid (∃ u, wr.cell? ⟨g9, i, none⟩ = some u) := by
                    rw [Hid, K9.out.cell]
                    exact ⟨_, Array.getElem?_eq_getElem (by rw [bytesS_size, outN_len hs hi]; exact hi32)⟩
                  obtain ⟨u9, C9⟩ := C9.out
                  have C9 := Lib.hid C9
                  have LD := Lib.hid (load_sh g3 (i / 4) (atS hs (i / 4)) wr (blkS_cell KS.out (atS_get (by rw [HHs.out]; omega))))
                  clear hx
                  go_upto_region 23 with fail
                  refine wp_region_lit ?_
                  refine wpL_val rfl (exMove (v := .int .i64 ((i : Nat) : Int)) rfl) ?_
                  simp only [Act.put, List.setIfInBounds_toArray, List.set_cons_zero, List.set_cons_succ]
                  refine wpL_val rfl (exMove (v := .int .i64 ((i : Nat) : Int)) rfl) ?_
                  simp only [Act.put, List.setIfInBounds_toArray, List.set_cons_zero, List.set_cons_succ]
                  refine wpL_val rfl (exBin (v := .int .i64 ((i / 4 : Nat) : Int)) rfl rfl (by rfl) (quo4_sh i (by omega) _)) ?_
                  simp only [Act.put, List.setIfInBounds_toArray, List.set_cons_zero, List.set_cons_succ]
                  refine wpL_val rfl (exIndex (v := .pointer (some ⟨g3, i / 4, none⟩)) rfl rfl (index8_sh g3 (i / 4) (by omega) _)) ?_
                  simp only [Act.put, List.setIfInBounds_toArray, List.set_cons_zero, List.set_cons_succ]
                  refine wpL_val rfl (exLoad (v := u32S (atS hs (i / 4))) rfl LD.out) ?_
                  simp only [Act.put, List.setIfInBounds_toArray, List.set_cons_zero, List.set_cons_succ]
                  refine wpL_val rfl (exMove (v := .int .i64 ((i : Nat) : Int)) rfl) ?_
                  simp only [Act.put, List.setIfInBounds_toArray, List.set_cons_zero, List.set_cons_succ]
                  refine wpL_val rfl (exBin (v := .int .i64 ((i % 4 : Nat) : Int)) rfl rfl (by rfl) (rem4_sh i 4 (by omega) _)) ?_
                  simp only [Act.put, List.setIfInBounds_toArray, List.set_cons_zero, List.set_cons_succ]
                  refine wpL_val rfl (exBin (v := .int .i64 ((8 * (i % 4) : Nat) : Int)) rfl rfl (by rfl) (mul8_sh (i % 4) (by omega) _)) ?_
                  simp only [Act.put, List.setIfInBounds_toArray, List.set_cons_zero, List.set_cons_succ]
                  refine wpL_val rfl (exBin (v := .int .i64 ((24 - 8 * (i % 4) : Nat) : Int)) rfl rfl (by rfl) (sub24_sh (8 * (i % 4)) (by omega) _)) ?_
                  simp only [Act.put, List.setIfInBounds_toArray, List.set_cons_zero, List.set_cons_succ]
                  refine wpL_val rfl (exConv_sh (v := .int .u64 ((24 - 8 * (i % 4) : Nat) : Int)) rfl (atU_sh (24 - 8 * (i % 4)) (by omega) _)) ?_
                  simp only [Act.put, List.setIfInBounds_toArray, List.set_cons_zero, List.set_cons_succ]
                  refine wpL_val rfl (exBin (v := u32S (atS hs (i / 4) >>> (24 - 8 * (i % 4)))) rfl rfl (by rfl) (shr_sh (atS hs (i / 4)) (24 - 8 * (i % 4)) (by omega) _)) ?_
                  simp only [Act.put, List.setIfInBounds_toArray, List.set_cons_zero, List.set_cons_succ]
                  refine wpL_val rfl (exConv_sh (v := .int .u8 ((x.toNat : Nat) : Int)) rfl (CU.out _)) ?_
                  simp only [Act.put, List.setIfInBounds_toArray, List.set_cons_zero, List.set_cons_succ]
                  refine wpL_val rfl (exIndex (v := .pointer (some ⟨g9, i, none⟩)) rfl rfl (index32_sh g9 i hi32 _)) ?_
                  simp only [Act.put, List.setIfInBounds_toArray, List.set_cons_zero, List.set_cons_succ]
                  refine wpList_st rfl rfl (storeB_sh g9 i x _ C9.out (K9.out.fr i)) ?_
                  refine wpList_nil ?_
                  have K92 : Hid (Blk (wr.setCell ⟨g9, i, none⟩ (.int .u8 ((x.toNat : Nat) : Int))) g9 37 (bytesS (outN hs (i + 1)))) := by
                    have h1 := K9.out.set_ i (.int .u8 ((x.toNat : Nat) : Int))
                    rw [bytesS_set, OS.out] at h1
                    exact h1
                  have KS2 := Lib.hid (KS.out.far (p := ⟨g9, i, none⟩) G9.out.2.1 (.int .u8 ((x.toNat : Nat) : Int)))
                  have K22 := Lib.hid (K2.out.far (p := ⟨g9, i, none⟩) G9.out.2.2 (.int .u8 ((x.toNat : Nat) : Int)))
                  have B2 := Lib.hid (below_setCell B.out (p := ⟨g9, i, none⟩) G9.out.1 (u := .int .u8 ((x.toNat : Nat) : Int)))
                  clear K9 KS K2 B CU OS C9 LD
                  generalize wr.setCell ⟨g9, i, none⟩ (.int .u8 ((x.toNat : Nat) : Int)) = we at *
                  go_wp2_with fail
                  go_roundw
                  case rel => exact ⟨i + 1, by omega, by go_num, K92.out, KS2.out, K22.out, B2.out⟩
                  case measure => simp [intOf]; omega
                · have hiz : ¬ (i : Int) < 32 := by omega
                  obtain rfl : i = 32 := by omega
                  rw [outN_all, HF.out] at K9
                  go_wp2_with (first
                    | (refine wpList_load_row rfl 37 _ (by rfl) g9 (by rfl) _ _ _ _ K9.out Tryz.underlying37 rfl (by rw [infoB32, bytesS_size, sumS_len]) ?_)
                    | (refine wpList_store_row rfl 37 _ _ (by rfl) g2 (bytesS (sumS kS hS l)) (by rfl) (by rfl) _ _ K2.out (by rw [infoB32, bytesS_size, sumS_len]) (by rw [bytesS_size, bytesS_size, sumS_len]; rfl) (bytesS_one _) ?_))
                  simp only [Exit.jump]
                  refine bodyPost_ret (results_cellS rfl _ _ g2 _ (bytesS (sumS kS hS l)) _ rfl (K2.out.row _) Tryz.underlying37 rfl (by rw [infoB32, bytesS_size, sumS_len])) rfl ?_
                  exact ⟨rfl, below_setRow B.out GO.out.1 _⟩
    · have ht : ¬ (n + 1 + k) % 64 = 56 := fun e => hkz ((zeros_test n k hk).1 e)
      have hb1 : w1.heap.size ≤ wr.heap.size := B.out.size
      go_upto_region 10 with fail
      refine wp_region_lit ?_
      refine wpL_val rfl (exMove (v := .slice A5 (n + 1 + k) c5) rfl) ?_
      simp only [Act.put, List.setIfInBounds_toArray, List.set_cons_zero, List.set_cons_succ]
      refine wpL_val rfl (exLen Tryz.underlying46 rfl) ?_
      simp only [Act.put, List.setIfInBounds_toArray, List.set_cons_zero, List.set_cons_succ]
      refine wpL_val rfl (exBin (v := .int .i64 (((n + 1 + k) % 64 : Nat) : Int)) rfl rfl (by rfl) (rem4_sh ((n + 1 + k)) 64 (by omega) _)) ?_
      simp only [Act.put, List.setIfInBounds_toArray, List.set_cons_zero, List.set_cons_succ]
      refine wpL_val rfl (exBin (v := .bool true) rfl rfl (by rfl) (ne56_sh ((n + 1 + k) % 64) true (decide_eq_false ht) _)) ?_
      simp only [Act.put, List.setIfInBounds_toArray, List.set_cons_zero, List.set_cons_succ]
      refine wpList_nil ?_
      go_upto_region 11 with fail
      refine wp_region_lit ?_
      refine wpL_val rfl (exMove (v := .slice A5 (n + 1 + k) c5) rfl) ?_
      simp only [Act.put, List.setIfInBounds_toArray, List.set_cons_zero, List.set_cons_succ]
      refine wpList_bs1 (0) rfl ?_
      simp only [Act.put, List.setIfInBounds_toArray, List.set_cons_zero, List.set_cons_succ]
      refine wpList_push byteSl O.out [.int .u8 0] rfl (by simp [Value.oneCell']) hb1 (by omega) (by unfold maxLen; omega) (by rfl) (by rfl) (by rfl) ?_
      intro v9 w9 own1 bel1
      simp only [Act.put, List.setIfInBounds_toArray, List.set_cons_zero, List.set_cons_succ]
      refine wpL_val rfl (exAssign (v := v9) rfl) ?_
      simp only [Act.put, List.setIfInBounds_toArray, List.set_cons_zero, List.set_cons_succ]
      refine wpList_nil ?_
      have O2 : Hid (w9.ownsRow w1.heap.size 5 1 v9 (n + 1 + (k + 1)) (encB (padT l (k + 1)))) := by
        rw [padT_next, encB_appS]
        exact own1
      have B2 := Lib.hid (B.out.trans bel1)
      clear own1 bel1 O B
      go_wp2_with fail
      go_step3
      obtain ⟨A9, c9, hv9, hc9, -⟩ := Sl.of_own O2.out
      subst hv9
      refine ⟨rfl, ⟨k + 1, _, _, _, _, _, _, _, _, _, _, _, _, _, _, _, _, _, _, _, _, _, _, _, _, _, _, _, _, _, _, _, _, _, _, _, _, _, _, _, _, _, _, _, _, _, _, _, _, _, _, _, _, _, _, _, _, _, _, _, _, _, _, _, _, _, _, _, _, _, _, _, _, _, _, rfl, by omega, O2.out, B2.out⟩, ?_⟩
      simp
      omega
  · -- ahead of the label
    intro PS
    go_upto_region 1 with (refine wpList_alloced (allocB32 _) ?_)
    generalize hwx : World.alloc w _ = wx
    obtain rfl : wx = wa := by rw [← hwx, HWA.out]; rfl
    rw [← HG2.out]
    clear hwx
    have RB := Lib.hid (shaB_range (shaB_ext HB.out B0a.out))
    go_upto_region 2 with (first
      | (refine wpList_load_mid rfl 236 _ (by rfl) 0 0 (by rfl) _ _ RB.out Tryz.underlying236 rfl (by rw [infoS8]; rfl) ?_)
      | (refine wpList_alloced (allocS8 _) ?_)
      | (refine wpList_store_row rfl 236 _ _ (by rfl) g3 (cellsS hS) (by rw [HG3.out]; rfl) (by rfl) _ _ KZ.out (by rw [infoS8]; rfl) (by rfl) (cellsS_one _) ?_))
    rw [← HG3.out]
    generalize hwy : World.setRow _ g3 _ = wy
    obtain rfl : wy = w1 := by rw [← hwy, HW1.out]; rfl
    clear hwy
    go_wp2_with fail
    go_loopw [4, 5, 14] (fun nv v iv wr => ∃ k m : Nat, iv = .int .i64 ((k : Nat) : Int) ∧ nv = .int .u64 ((m : Nat) : Int) ∧ Hid ((k = 0 ∧ m = 0) ∨ (k = 1 ∧ m = n)) ∧ Hid (wr.ownsRow wy.heap.size 5 1 v m (encB (l.take m))) ∧ Hid (Below wy.heap.size wy wr)) (fun _ _ iv _ => 1 - (intOf iv).toNat)
    case atStart => exact ⟨0, 0, rfl, rfl, .inl ⟨rfl, rfl⟩, World.ownsRow_nil _ _ _ _, Below.refl _ _⟩
    case round =>
      obtain ⟨k, m, rfl, rfl, HKM, O, B⟩ := hrel
      obtain ⟨A0, c0, hv0, hc0, -⟩ := Sl.of_own O.out
      subst hv0
      have hb1 : wy.heap.size ≤ wr.heap.size := B.out.size
      by_cases hk1 : k < 1
      · have hkz : (k : Int) < 1 := by omega
        have HM : Hid (k = 0 ∧ m = 0) := by have := HKM.out; rw [Hid]; omega
        have BW := Lib.hid (B0.out.trans (B.out.mono B0.out.size))
        have y0 : wr.cell? ⟨g, 0, none⟩ = some (.slice A n c) := (BW.out.cell (p := ⟨g, 0, none⟩) HG.out).trans HP.out
        have SLw := Lib.hid (HS.out.below BW.out (Nat.le_refl _))
        have HN2 : Hid (n = m + n) := by have := HM.out; rw [Hid]; omega
        have hm0 : m ≤ 0 := by have := HM.out; omega
        obtain rfl : k = 0 := HM.out.1
        clear HKM
        go_upto_region 6 with fail
        refine wp_region_lit ?_
        refine wpL_val rfl (exMove (v := .int .u64 ((m : Nat) : Int)) rfl) ?_
        simp only [Act.put, List.setIfInBounds_toArray, List.set_cons_zero, List.set_cons_succ]
        refine wpL_val rfl (exMove (v := .slice A n c) rfl) ?_
        simp only [Act.put, List.setIfInBounds_toArray, List.set_cons_zero, List.set_cons_succ]
        refine wpL_val rfl (exLen Tryz.underlying46 rfl) ?_
        simp only [Act.put, List.setIfInBounds_toArray, List.set_cons_zero, List.set_cons_succ]
        refine wpL_val rfl (exConv_sh (v := .int .u64 ((n : Nat) : Int)) rfl (lenU_sh n hm _)) ?_
        simp only [Act.put, List.setIfInBounds_toArray, List.set_cons_zero, List.set_cons_succ]
        refine wpL_val rfl (exBin (v := .int .u64 ((n : Nat) : Int)) rfl rfl (by rfl) (addU_sh m n n HN2.out (by omega) _)) ?_
        simp only [Act.put, List.setIfInBounds_toArray, List.set_cons_zero, List.set_cons_succ]
        refine wpL_val rfl (exAssign (v := .int .u64 ((n : Nat) : Int)) rfl) ?_
        simp only [Act.put, List.setIfInBounds_toArray, List.set_cons_zero, List.set_cons_succ]
        refine wpList_nil ?_
        go_upto_region 7 with fail
        refine wp_region_lit ?_
        refine wpL_val rfl (exMove (v := .slice A0 m c0) rfl) ?_
        simp only [Act.put, List.setIfInBounds_toArray, List.set_cons_zero, List.set_cons_succ]
        refine wpL_val rfl (exMove (v := .slice A n c) rfl) ?_
        simp only [Act.put, List.setIfInBounds_toArray, List.set_cons_zero, List.set_cons_succ]
        refine wpList_cat byteSl O.out SLw.out (encB_one _) hb1 (by omega) (by unfold maxLen; omega) (by rfl) (by rfl) ?_
        intro v9 w9 own1 bel1
        simp only [Act.put, List.setIfInBounds_toArray, List.set_cons_zero, List.set_cons_succ]
        refine wpL_val rfl (exAssign (v := v9) rfl) ?_
        simp only [Act.put, List.setIfInBounds_toArray, List.set_cons_zero, List.set_cons_succ]
        refine wpList_nil ?_
        have O2 : Hid (w9.ownsRow wy.heap.size 5 1 v9 n (encB (l.take n))) := by
          have h1 := own1
          rw [← HN2.out, HM.out.2, List.take_zero] at h1
          rw [List.take_of_length_le (by rw [HL.out]; exact Nat.le_refl _)]
          exact h1
        have B2 := Lib.hid (B.out.trans bel1)
        clear own1 bel1 O B y0 SLw BW
        go_wp2_with fail
        go_roundw
        case rel => exact ⟨1, n, rfl, rfl, .inr ⟨rfl, rfl⟩, O2.out, B2.out⟩
        case measure => simp [intOf]
      · have hkz : ¬ (k : Int) < 1 := by omega
        have HM : Hid (k = 1 ∧ m = n) := by have := HKM.out; rw [Hid]; omega
        obtain rfl : m = n := HM.out.2
        rw [List.take_of_length_le (by rw [HL.out]; exact Nat.le_refl _)] at O
        go_upto_region 9 with fail
        refine wp_region_lit ?_
        refine wpL_val rfl (exMove (v := .slice A0 m c0) rfl) ?_
        simp only [Act.put, List.setIfInBounds_toArray, List.set_cons_zero, List.set_cons_succ]
        refine wpList_bs1 (128) rfl ?_
        simp only [Act.put, List.setIfInBounds_toArray, List.set_cons_zero, List.set_cons_succ]
        refine wpList_push byteSl O.out [.int .u8 128] rfl (by simp [Value.oneCell']) hb1 (by omega) (by unfold maxLen; omega) (by rfl) (by rfl) (by rfl) ?_
        intro v9 w9 own1 bel1
        simp only [Act.put, List.setIfInBounds_toArray, List.set_cons_zero, List.set_cons_succ]
        refine wpL_val rfl (exAssign (v := v9) rfl) ?_
        simp only [Act.put, List.setIfInBounds_toArray, List.set_cons_zero, List.set_cons_succ]
        refine wpList_nil ?_
        have O2 : Hid (w9.ownsRow wy.heap.size 5 1 v9 (m + 1 + 0) (encB (padT l 0))) := by
          unfold padT
          rw [encB_appS, encB_appS, show encB (List.replicate 0 0) = [] from rfl, List.append_nil]
          exact own1
        have B2 := Lib.hid (B.out.trans bel1)
        clear own1 bel1 O B
        go_wp2_with fail
        go_step3
        rename_i hK
        refine hK _ _ (PS _ _ ?_)
        exact ⟨0, _, _, _, _, _, _, _, _, _, _, _, _, _, _, _, _, _, _, _, _, _, _, _, _, _, _, _, _, _, _, _, _, _, _, _, _, _, _, _, _, _, _, _, _, _, _, _, _, _, _, _, _, _, _, _, _, _, _, _, _, _, _, _, _, _, _, _, _, _, _, _, _, _, _, rfl, Nat.zero_le _, O2.out, B2.out⟩
end Go.Proofs.YtihggkmjalofiaaGreatDoor
