/- A sum's digits. -/
import Derived.Test.YtihggkmjalofiaaGreatDoorPcds
import Derived.Test.YtihggkmjalofiaaGreatDoorShag
import Derived.Test.YtihggkmjalofiaaGreatDoorBufs
import Derived.Test.YtihggkmjalofiaaGreatDoorGen
import Derived.Test.YtihggkmjalofiaaGreatDoorIdxw
namespace Go.Proofs.YtihggkmjalofiaaGreatDoor
open Go.RowKit

def hexD (n : Nat) : UInt8 := if n < 10 then UInt8.ofNat (48 + n) else UInt8.ofNat (87 + n)
def hexL (b : List UInt8) : List UInt8 := b.flatMap fun c => [hexD (c.toNat / 16), hexD (c.toNat % 16)]
theorem hexL_len (b : List UInt8) : (hexL b).length = 2 * b.length := by
  induction b with
  | nil => rfl
  | cons x xs ih =>
    have e : hexL (x :: xs) = hexD (x.toNat / 16) :: hexD (x.toNat % 16) :: hexL xs := rfl
    rw [e, List.length_cons, List.length_cons, ih, List.length_cons]
    omega
theorem hexL_next {b : List UInt8} {k : Nat} {c : UInt8} (h : b[k]? = some c) : hexL (b.take (k + 1)) = hexL (b.take k) ++ [hexD (c.toNat / 16), hexD (c.toNat % 16)] := by
  rw [List.take_add_one, h]
  unfold hexL
  rw [List.flatMap_append]
  rfl
abbrev digitsF : ByteArray := ⟨#[48, 49, 50, 51, 52, 53, 54, 55, 56, 57, 97, 98, 99, 100, 101, 102]⟩
theorem digitF (k : Nat) (hk : k < 16) (w : World) : (Instr.index 9 (.string digitsF) (.int .u8 ((k : Nat) : Int))).run Tryz.prog w = .ok (.int .u8 (((hexD k).toNat : Nat) : Int)) w :=
  match k, hk with
  | 0, _ => by kernel_rfl
  | 1, _ => by kernel_rfl
  | 2, _ => by kernel_rfl
  | 3, _ => by kernel_rfl
  | 4, _ => by kernel_rfl
  | 5, _ => by kernel_rfl
  | 6, _ => by kernel_rfl
  | 7, _ => by kernel_rfl
  | 8, _ => by kernel_rfl
  | 9, _ => by kernel_rfl
  | 10, _ => by kernel_rfl
  | 11, _ => by kernel_rfl
  | 12, _ => by kernel_rfl
  | 13, _ => by kernel_rfl
  | 14, _ => by kernel_rfl
  | 15, _ => by kernel_rfl
  | n + 16, h => absurd h (by omega)
theorem exIdxF {P : Program} {ρ : Operand → Value} {w : World} {d : Option Tmp} {ty s : TypeId} {pos : String} {after : Array Edge} {gd : Option (Nat × Bool)} {x y : Operand} {xv yv v : Value} (hx : ρ x = xv) (hy : ρ y = yv) (hr : (Instr.index s xv yv).run P w = .ok v w) : (execOp ρ ⟨d, .index s x y, ty, pos, after, gd⟩).run P w = .ok (.value v) w := by
  unfold execOp
  simp only [hx, hy, Sem.run_bind, hr, Result.andThen_ok, Sem.run_pure]
theorem wpPureF {P : Program} {Q : Exit → Act → World → Prop} {K : Act → World → Prop} {a : Act} {w : World} {d : Option Tmp} {op : Op} {ty : TypeId} {pos : String} {after : Array Edge} {gd : Option (Nat × Bool)} {v : Value} (h : (execOp a.eval ⟨d, op, ty, pos, after, gd⟩).run P w = .ok (.value v) w) (hk : K (a.put d v) w) : Oper.wp P ⟨d, op, ty, pos, after, gd⟩ a w K Q := by
  unfold Oper.wp
  rw [h]
  exact hk
theorem wpPureW {P : Program} {Q : Exit → Act → World → Prop} {K : Act → World → Prop} {a : Act} {w w' : World} {d : Option Tmp} {op : Op} {ty : TypeId} {pos : String} {after : Array Edge} {gd : Option (Nat × Bool)} {v : Value} (h : (execOp a.eval ⟨d, op, ty, pos, after, gd⟩).run P w = .ok (.value v) w') (hk : K (a.put d v) w') : Oper.wp P ⟨d, op, ty, pos, after, gd⟩ a w K Q := by
  unfold Oper.wp
  rw [h]
  exact hk
theorem buildByte2 (X Y : UInt8) (w : World) : (Instr.buildSlice 46 2 #[(0, .int .u8 ((X.toNat : Nat) : Int)), (1, .int .u8 ((Y.toNat : Nat) : Int))]).run Tryz.prog w = .ok (.slice (some ⟨w.heap.size, 0, none⟩) 2 2) (w.alloc (.cells #[.int .u8 ((X.toNat : Nat) : Int), .int .u8 ((Y.toNat : Nat) : Int)] 5)) := by kernel_rfl
theorem exBuild2F {ρ : Operand → Value} {w : World} {d : Option Tmp} {ty : TypeId} {pos : String} {after : Array Edge} {gd : Option (Nat × Bool)} {x y : Operand} (X Y : UInt8) (hx : ρ x = .int .u8 ((X.toNat : Nat) : Int)) (hy : ρ y = .int .u8 ((Y.toNat : Nat) : Int)) : (execOp ρ ⟨d, .buildSlice 46 2 #[(0, x), (1, y)], ty, pos, after, gd⟩).run Tryz.prog w = .ok (.value (.slice (some ⟨w.heap.size, 0, none⟩) 2 2)) (w.alloc (.cells #[.int .u8 ((X.toNat : Nat) : Int), .int .u8 ((Y.toNat : Nat) : Int)] 5)) := by
  unfold execOp
  simp only [List.map_toArray, List.map_cons, List.map_nil, hx, hy, Sem.run_bind, buildByte2, Result.andThen_ok, Sem.run_pure]
theorem under32F : Tryz.prog.underlying 37 = some (.array 32 5) := by kernel_rfl
theorem sizeOfF8 (w : World) : (sizeOf 5).run Tryz.prog w = .ok 1 w := by kernel_rfl
theorem isAggF8 (w : World) : (isAgg 5).run Tryz.prog w = .ok false w := by kernel_rfl
theorem index_F (b : List UInt8) (hb : b.length = 32) (k : Nat) (c : UInt8) (hc : b[k]? = some c) (w : World) : (Instr.index 37 (.agg (bytesS b)) (.int .i64 ((k : Nat) : Int))).run Tryz.prog w = .ok (.int .u8 ((c.toNat : Nat) : Int)) w := by
  have hk : k < b.length := (List.getElem?_eq_some_iff.1 hc).1
  have hv : (bytesS b)[k]? = some (.int .u8 ((c.toNat : Nat) : Int)) := by
    unfold bytesS
    rw [List.getElem?_toArray]
    rw [encB_at, hc]; rfl
  have hi : (0 : Int) ≤ (k : Int) ∧ (k : Int) < (32 : Nat) := by omega
  simp only [Instr.index, asIntOf, Sem.run_bind, Sem.run_pure, Result.andThen_ok, run_underlying under32F]
  rw [if_pos hi]
  simp only [part, Sem.run_bind, sizeOfF8, isAggF8, Result.andThen_ok, Bool.false_eq_true, if_false, Int.toNat_natCast, Nat.mul_one, hv, Sem.run_pure]
theorem shr4F (c : UInt8) (w : World) : (binOp .shr 5 (.int .u8 ((c.toNat : Nat) : Int)) (.int .u64 4)).run Tryz.prog w = .ok (.int .u8 ((c.toNat / 16 : Nat) : Int)) w := by
  simp [go_sem]
theorem and15 {q : Nat} (h : q < 256) : bits .and .u8 (q : Int) 15 = ((q % 16 : Nat) : Int) := by
  have := u8_and_nat q 15 h (by omega)
  rw [show ((15 : Nat) : Int) = 15 from rfl] at this
  rw [this, show (15 : Nat) = 2 ^ 4 - 1 by rfl, Nat.and_two_pow_sub_one_eq_mod]
theorem and15F (c : UInt8) (w : World) : (binOp .and 5 (.int .u8 ((c.toNat : Nat) : Int)) (.int .u8 15)).run Tryz.prog w = .ok (.int .u8 ((c.toNat % 16 : Nat) : Int)) w := by
  have := c.toNat_lt
  rw [← and15 (q := c.toNat) (by omega)]
  simp [go_sem]
theorem mk64F (w : World) : (Instr.makeSlice 46 (.int .i64 0) (.int .i64 64)).run Tryz.prog w = .ok (.slice (some ⟨w.heap.size, 0, none⟩) 0 64) (w.alloc (.cells (Array.replicate 64 (.int .u8 0)) 5)) := by kernel_rfl
theorem two_sl (w : World) (x y : UInt8) : Sl (w.alloc (.cells #[.int .u8 ((x.toNat : Nat) : Int), .int .u8 ((y.toNat : Nat) : Int)] 5)) (w.alloc (.cells #[.int .u8 ((x.toNat : Nat) : Int), .int .u8 ((y.toNat : Nat) : Int)] 5)).heap.size 1 (some ⟨w.heap.size, 0, none⟩) 2 (encB [x, y]) :=
  sl_fresh w _ 5 1 2 (encB [x, y]) (by rw [encB_len]; rfl) rfl
set_option maxRecDepth 100000 in
set_option maxHeartbeats 8000000 in
theorem hex_any (b : List UInt8) (hb : b.length = 32) (w : World) : Calls Tryz.prog 62 #[.agg (bytesS b)] w (RetB w (.string (bytesOf (hexL b)))) := by
  have hmk := mk64F
  have HL := Lib.hid hb
  have K0 : Hid (Blk (w.alloc (.cells (bytesS b) 37)) w.heap.size 37 (bytesS b)) := Blk.new _ _ _
  have B0 : Hid (Below w.heap.size w (w.alloc (.cells (bytesS b) 37))) := below_new _ _
  clear hb
  go_enter Tryz.func62, Tryz.ntmps62
  go_upto_region 1 with fail
  generalize (w.alloc (.cells (bytesS b) 37)) = w1 at *
  have HB0 := Lib.hid B0.out
  obtain ⟨g1, hg1⟩ : ∃ g1, g1 = w.heap.size := ⟨_, rfl⟩
  rw [← hg1] at K0 ⊢
  clear hg1
  have O0 : Hid ((w1.alloc (.cells (Array.replicate 64 (.int .u8 0)) 5)).ownsRow w1.heap.size 5 1 (.slice (some ⟨w1.heap.size, 0, none⟩) 0 64) 0 (encB (hexL (b.take 0)))) :=
    ⟨rfl, .inr ⟨w1.heap.size, 64, _, rfl, Nat.le_refl _, heap_alloc_new w1 _, Nat.zero_le _, by simp [maxLen], by simp, rfl⟩⟩
  have B1 : Hid (Below w1.heap.size w1 (w1.alloc (.cells (Array.replicate 64 (.int .u8 0)) 5))) := below_new _ _
  go_wp2_with (refine wpList_load_row rfl 37 _ (by rfl) g1 (by rfl) _ _ _ _ (K0.out.ext B1.out) Tryz.underlying37 rfl (by rw [infoB32, bytesS_size, HL.out]) ?_)
  obtain ⟨w0, hw0⟩ : ∃ x, x = w1.alloc (.cells (Array.replicate 64 (.int .u8 0)) 5) := ⟨_, rfl⟩
  rw [← hw0] at O0 B1 ⊢
  clear hmk K0 hw0
  have HW1 : Hid (w1.heap.size ≤ w0.heap.size) := B1.out.size
  have B2 : Hid (Below w1.heap.size w1 w0) := B1
  go_loopw [3, 5, 8] (fun s c i wr => ∃ k : Nat, k ≤ 32 ∧ i = .int .i64 k ∧ Hid (wr.ownsRow w1.heap.size 5 1 s (2 * k) (encB (hexL (b.take k)))) ∧ Hid (Below w1.heap.size w1 wr)) (fun _ _ i _ => 32 - (intOf i).toNat)
  case atStart => exact ⟨0, by omega, rfl, O0.out, B2.out⟩
  case round =>
    clear O0 B1 B2 HW1
    obtain ⟨k, hk, rfl, O, B⟩ := hrel
    obtain ⟨A', c', hv, hcm, _⟩ := Sl.of_own O.out
    subst hv
    by_cases hlt : k < 32
    · have hlk : (k : Int) < 32 := by omega
      obtain ⟨c, hc⟩ : ∃ c, b[k]? = some c := ⟨_, List.getElem?_eq_getElem (by rw [HL.out]; exact hlt)⟩
      have HIX := Lib.hid (fun u : World => index_F b HL.out k c hc u)
      have HN := Lib.hid (hexL_next hc)
      have h16 := c.toNat_lt
      have hq1 : c.toNat / 16 < 16 := by omega
      have hq2 : c.toNat % 16 < 16 := by omega
      clear hc
      go_upto_region 4 with fail
      refine wp_region_lit ?_
      refine wpL_val rfl (exIdxF (v := .int .u8 ((c.toNat : Nat) : Int)) rfl rfl (HIX.out _)) ?_
      simp only [Act.put, List.setIfInBounds_toArray, List.set_cons_zero, List.set_cons_succ]
      refine wpL_val rfl (exAssign (v := .int .u8 ((c.toNat : Nat) : Int)) rfl) ?_
      simp only [Act.put, List.setIfInBounds_toArray, List.set_cons_zero, List.set_cons_succ]
      refine wpList_nil ?_
      go_upto_region 5 with fail
      try go_frame
      · skip
        refine wp_region_held (S := fun _ => True) mixedS ?_
        change wpAnyH _ _ _ _ _ _ _ _ wr.drew
        have OD : Hid (wr.drew.ownsRow w1.heap.size 5 1 (.slice A' (2 * k) c') (2 * k) (encB (hexL (b.take k)))) := O.out
        have BD : Hid (Below w1.heap.size w1 wr.drew) := B.out.drew
        generalize wr.drew = wd at *
        clear O B
        simp only [List.size_toArray, List.length_cons, List.length_nil]
        refine takeV (i := 0) (d := 11) (v := .slice A' (2 * k) c') rfl (by kernel_rfl) (by kernel_rfl) (by kernel_rfl) (fun _ _ _ h => h) rfl (fun w' _ => exMove (v := .slice A' (2 * k) c') rfl) trivial ?_
        simp only [Act.put, List.setIfInBounds_toArray, List.set_cons_zero, List.set_cons_succ]
        refine takeV (i := 1) (d := 12) (v := .int .u8 ((c.toNat : Nat) : Int)) rfl (by kernel_rfl) (by kernel_rfl) (by kernel_rfl) (fun _ _ _ h => h) rfl (fun w' _ => exMove (v := .int .u8 ((c.toNat : Nat) : Int)) rfl) trivial ?_
        simp only [Act.put, List.setIfInBounds_toArray, List.set_cons_zero, List.set_cons_succ]
        refine takeV (i := 2) (d := 13) (v := .int .u8 ((c.toNat / 16 : Nat) : Int)) rfl (by kernel_rfl) (by kernel_rfl) (by kernel_rfl) (fun _ _ _ h => h) rfl (fun w' _ => exBin (v := .int .u8 ((c.toNat / 16 : Nat) : Int)) rfl rfl (by rfl) (shr4F c w')) trivial ?_
        simp only [Act.put, List.setIfInBounds_toArray, List.set_cons_zero, List.set_cons_succ]
        refine takeV (i := 3) (d := 14) (v := .int .u8 (((hexD (c.toNat / 16)).toNat : Nat) : Int)) rfl (by kernel_rfl) (by kernel_rfl) (by kernel_rfl) (fun _ _ _ h => h) rfl (fun w' _ => exIdxF (v := .int .u8 (((hexD (c.toNat / 16)).toNat : Nat) : Int)) rfl rfl (digitF (c.toNat / 16) hq1 w')) trivial ?_
        simp only [Act.put, List.setIfInBounds_toArray, List.set_cons_zero, List.set_cons_succ]
        refine takeV (i := 4) (d := 15) (v := .int .u8 ((c.toNat : Nat) : Int)) rfl (by kernel_rfl) (by kernel_rfl) (by kernel_rfl) (fun _ _ _ h => h) rfl (fun w' _ => exMove (v := .int .u8 ((c.toNat : Nat) : Int)) rfl) trivial ?_
        simp only [Act.put, List.setIfInBounds_toArray, List.set_cons_zero, List.set_cons_succ]
        refine takeV (i := 5) (d := 16) (v := .int .u8 ((c.toNat % 16 : Nat) : Int)) rfl (by kernel_rfl) (by kernel_rfl) (by kernel_rfl) (fun _ _ _ h => h) rfl (fun w' _ => exBin (v := .int .u8 ((c.toNat % 16 : Nat) : Int)) rfl rfl (by rfl) (and15F c w')) trivial ?_
        simp only [Act.put, List.setIfInBounds_toArray, List.set_cons_zero, List.set_cons_succ]
        refine takeV (i := 6) (d := 17) (v := .int .u8 (((hexD (c.toNat % 16)).toNat : Nat) : Int)) rfl (by kernel_rfl) (by kernel_rfl) (by kernel_rfl) (fun _ _ _ h => h) rfl (fun w' _ => exIdxF (v := .int .u8 (((hexD (c.toNat % 16)).toNat : Nat) : Int)) rfl rfl (digitF (c.toNat % 16) hq2 w')) trivial ?_
        simp only [Act.put, List.setIfInBounds_toArray, List.set_cons_zero, List.set_cons_succ]
        have SLT := Lib.hid (two_sl wd (hexD (c.toNat / 16)) (hexD (c.toNat % 16)))
        have BW : Hid (Below wd.heap.size wd (wd.alloc (.cells #[.int .u8 (((hexD (c.toNat / 16)).toNat : Nat) : Int), .int .u8 (((hexD (c.toNat % 16)).toNat : Nat) : Int)] 5))) := below_new _ _
        have OW := Lib.hid (own_ext OD.out BW.out)
        have BW2 := Lib.hid (BD.out.trans (BW.out.mono BD.out.size))
        have hb1 : Hid (w1.heap.size ≤ (wd.alloc (.cells #[.int .u8 (((hexD (c.toNat / 16)).toNat : Nat) : Int), .int .u8 (((hexD (c.toNat % 16)).toNat : Nat) : Int)] 5)).heap.size) := BW2.out.size
        refine wpAnyH_all (rs := [7]) (by kernel_rfl) (by simp) ?_
        intro i hi
        simp only [List.mem_cons, List.not_mem_nil, or_false] at hi
        subst hi
        refine wpOp_of rfl rfl (wpPureW (v := .slice (some ⟨wd.heap.size, 0, none⟩) 2 2) (w' := wd.alloc (.cells #[.int .u8 (((hexD (c.toNat / 16)).toNat : Nat) : Int), .int .u8 (((hexD (c.toNat % 16)).toNat : Nat) : Int)] 5)) (exBuild2F (hexD (c.toNat / 16)) (hexD (c.toNat % 16)) rfl rfl) ?_)
        refine ⟨trivial, ?_⟩
        simp only [Act.put, List.setIfInBounds_toArray, List.set_cons_zero, List.set_cons_succ]
        refine wpAnyH_all (rs := [8]) (by kernel_rfl) (by simp) ?_
        intro i hi
        simp only [List.mem_cons, List.not_mem_nil, or_false] at hi
        subst hi
        refine wpOp_of rfl rfl (wp_cat byteSl OW.out SLT.out (encB_one _) hb1.out (by omega) (by unfold maxLen; omega) (by rfl) (by rfl) ?_)
        intro v9 w9 own9 bel9
        refine ⟨trivial, ?_⟩
        simp only [Act.put, List.setIfInBounds_toArray, List.set_cons_zero, List.set_cons_succ]
        have O9 : Hid (w9.ownsRow w1.heap.size 5 1 v9 (2 * (k + 1)) (encB (hexL (b.take (k + 1))))) := by
          rw [HN.out, encB_appS]
          exact own9
        have B9 := Lib.hid (BW2.out.trans bel9)
        clear own9 bel9
        refine wpAnyH_all (rs := [9]) (by kernel_rfl) (by simp) ?_
        intro i hi
        simp only [List.mem_cons, List.not_mem_nil, or_false] at hi
        subst hi
        refine wpOp_of rfl rfl (wpPureF (v := v9) (exAssign (v := v9) rfl) ?_)
        refine ⟨trivial, ?_⟩
        simp only [Act.put, List.setIfInBounds_toArray, List.set_cons_zero, List.set_cons_succ]
        refine wpAnyH_done (by kernel_rfl) ?_ _
        go_wp2_with fail
        go_roundw
        case rel => exact ⟨k + 1, by omega, by go_num, O9.out, B9.out⟩
        case measure => simp [intOf]; omega
    · have hnl : ¬ (k : Int) < 32 := by omega
      obtain rfl : k = 32 := by omega
      rw [List.take_of_length_le (by rw [HL.out]; exact Nat.le_refl _)] at O
      obtain ⟨A5, c5, hv5, hc5, sl5⟩ := Sl.of_own O.out
      obtain ⟨rfl, rfl⟩ : A' = A5 ∧ c' = c5 := by injection hv5 with a _ b; exact ⟨a, b⟩
      clear hv5
      have CV := Lib.hid (strB_run (c := c') sl5 (by rw [hexL_len, HL.out]))
      go_upto_region 7 with fail
      refine wp_region_lit ?_
      refine wpL_val rfl (exMove (v := .slice A' 64 c') rfl) ?_
      simp only [Act.put, List.setIfInBounds_toArray, List.set_cons_zero, List.set_cons_succ]
      refine wpL_val rfl (exConv_sh (v := .string (bytesOf (hexL b))) rfl CV.out) ?_
      simp only [Act.put, List.setIfInBounds_toArray, List.set_cons_zero, List.set_cons_succ]
      refine wpL_val rfl (exAssign (v := .string (bytesOf (hexL b))) rfl) ?_
      simp only [Act.put, List.setIfInBounds_toArray, List.set_cons_zero, List.set_cons_succ]
      refine wpList_nil ?_
      go_wp2_with fail
      go_ret
      exact ⟨rfl, HB0.out.trans (B.out.mono HB0.out.size)⟩
end Go.Proofs.YtihggkmjalofiaaGreatDoor

/- A patch's fingerprint. -/
namespace Go.Proofs.YtihggkmjalofiaaGreatDoor
open Go.RowKit

/-- a patch's fingerprint -/
def fpB (p : PatV) : List UInt8 := if patB p = true then sumS kS hS (patBytes p) else List.replicate 32 0
theorem fpB_len (p : PatV) : (fpB p).length = 32 := by
  unfold fpB
  split
  · exact sumS_len _ _ _
  · rw [List.length_replicate]
theorem zero32 : bytesS (List.replicate 32 0) = #[.int .u8 0, .int .u8 0, .int .u8 0, .int .u8 0, .int .u8 0, .int .u8 0, .int .u8 0, .int .u8 0, .int .u8 0, .int .u8 0, .int .u8 0, .int .u8 0, .int .u8 0, .int .u8 0, .int .u8 0, .int .u8 0, .int .u8 0, .int .u8 0, .int .u8 0, .int .u8 0, .int .u8 0, .int .u8 0, .int .u8 0, .int .u8 0, .int .u8 0, .int .u8 0, .int .u8 0, .int .u8 0, .int .u8 0, .int .u8 0, .int .u8 0, .int .u8 0] := by kernel_rfl
set_option maxRecDepth 100000 in
set_option maxHeartbeats 8000000 in
theorem fpatch_any (p : PatV) (w : World) (cs : List Value) (hp : PatAt w cs p) (hK : ShaK w) (hB : ShaB w) : Calls Tryz.prog 20 #[.agg cs.toArray] w (RetB w (.agg (bytesS (fpB p)))) := by
  have hp0 := hp
  obtain ⟨⟨A, c, A', c', rfl, _, _⟩, _, _⟩ := hp0
  have K0 : Hid (Blk (w.alloc (.cells (patC p.1 A p.2.1.length c A' p.2.2.length c').toArray 31)) w.heap.size 31 (patC p.1 A p.2.1.length c A' p.2.2.length c').toArray) := Blk.new _ _ _
  have B0 : Hid (Below w.heap.size w (w.alloc (.cells (patC p.1 A p.2.1.length c A' p.2.2.length c').toArray 31))) := below_new _ _
  have P0 := Lib.hid (hp.ext B0.out)
  have HK0 := Lib.hid (shaK_ext hK B0.out)
  have HB0 := Lib.hid (shaB_ext hB B0.out)
  clear hp hK hB
  go_enter Tryz.func20, Tryz.ntmps20
  have hs2 : (w.alloc (.cells (patC p.1 A p.2.1.length c A' p.2.2.length c').toArray 31)).heap.size = w.heap.size + 1 := by simp only [World.alloc, Array.size_push]
  have K2a : Hid (Blk ((w.alloc (.cells (patC p.1 A p.2.1.length c A' p.2.2.length c').toArray 31)).alloc (.cells #[Value.int IntKind.u8 0, Value.int IntKind.u8 0, Value.int IntKind.u8 0, Value.int IntKind.u8 0, Value.int IntKind.u8 0, Value.int IntKind.u8 0, Value.int IntKind.u8 0, Value.int IntKind.u8 0, Value.int IntKind.u8 0, Value.int IntKind.u8 0, Value.int IntKind.u8 0, Value.int IntKind.u8 0, Value.int IntKind.u8 0, Value.int IntKind.u8 0, Value.int IntKind.u8 0, Value.int IntKind.u8 0, Value.int IntKind.u8 0, Value.int IntKind.u8 0, Value.int IntKind.u8 0, Value.int IntKind.u8 0, Value.int IntKind.u8 0, Value.int IntKind.u8 0, Value.int IntKind.u8 0, Value.int IntKind.u8 0, Value.int IntKind.u8 0, Value.int IntKind.u8 0, Value.int IntKind.u8 0, Value.int IntKind.u8 0, Value.int IntKind.u8 0, Value.int IntKind.u8 0, Value.int IntKind.u8 0, Value.int IntKind.u8 0] 37)) (w.heap.size + 1) 37 #[Value.int IntKind.u8 0, Value.int IntKind.u8 0, Value.int IntKind.u8 0, Value.int IntKind.u8 0, Value.int IntKind.u8 0, Value.int IntKind.u8 0, Value.int IntKind.u8 0, Value.int IntKind.u8 0, Value.int IntKind.u8 0, Value.int IntKind.u8 0, Value.int IntKind.u8 0, Value.int IntKind.u8 0, Value.int IntKind.u8 0, Value.int IntKind.u8 0, Value.int IntKind.u8 0, Value.int IntKind.u8 0, Value.int IntKind.u8 0, Value.int IntKind.u8 0, Value.int IntKind.u8 0, Value.int IntKind.u8 0, Value.int IntKind.u8 0, Value.int IntKind.u8 0, Value.int IntKind.u8 0, Value.int IntKind.u8 0, Value.int IntKind.u8 0, Value.int IntKind.u8 0, Value.int IntKind.u8 0, Value.int IntKind.u8 0, Value.int IntKind.u8 0, Value.int IntKind.u8 0, Value.int IntKind.u8 0, Value.int IntKind.u8 0]) := by rw [Hid, ← hs2]; exact Blk.new _ _ _
  have B2a : Hid (Below (w.alloc (.cells (patC p.1 A p.2.1.length c A' p.2.2.length c').toArray 31)).heap.size (w.alloc (.cells (patC p.1 A p.2.1.length c A' p.2.2.length c').toArray 31)) ((w.alloc (.cells (patC p.1 A p.2.1.length c A' p.2.2.length c').toArray 31)).alloc (.cells #[Value.int IntKind.u8 0, Value.int IntKind.u8 0, Value.int IntKind.u8 0, Value.int IntKind.u8 0, Value.int IntKind.u8 0, Value.int IntKind.u8 0, Value.int IntKind.u8 0, Value.int IntKind.u8 0, Value.int IntKind.u8 0, Value.int IntKind.u8 0, Value.int IntKind.u8 0, Value.int IntKind.u8 0, Value.int IntKind.u8 0, Value.int IntKind.u8 0, Value.int IntKind.u8 0, Value.int IntKind.u8 0, Value.int IntKind.u8 0, Value.int IntKind.u8 0, Value.int IntKind.u8 0, Value.int IntKind.u8 0, Value.int IntKind.u8 0, Value.int IntKind.u8 0, Value.int IntKind.u8 0, Value.int IntKind.u8 0, Value.int IntKind.u8 0, Value.int IntKind.u8 0, Value.int IntKind.u8 0, Value.int IntKind.u8 0, Value.int IntKind.u8 0, Value.int IntKind.u8 0, Value.int IntKind.u8 0, Value.int IntKind.u8 0] 37))) := below_new _ _
  clear hs2
  go_upto_region 1 with fail
  have P1 := Lib.hid (P0.out.ext B2a.out)
  have K1 := Lib.hid (K0.out.ext B2a.out)
  have HK1 := Lib.hid (shaK_ext HK0.out B2a.out)
  have HB1 := Lib.hid (shaB_ext HB0.out B2a.out)
  have B1 := Lib.hid (B0.out.trans (B2a.out.mono B0.out.size))
  have GL : Hid (w.heap.size ≤ w.heap.size + 1) := Nat.le_succ _
  generalize ((w.alloc (.cells (patC p.1 A p.2.1.length c A' p.2.2.length c').toArray 31)).alloc (.cells #[Value.int IntKind.u8 0, Value.int IntKind.u8 0, Value.int IntKind.u8 0, Value.int IntKind.u8 0, Value.int IntKind.u8 0, Value.int IntKind.u8 0, Value.int IntKind.u8 0, Value.int IntKind.u8 0, Value.int IntKind.u8 0, Value.int IntKind.u8 0, Value.int IntKind.u8 0, Value.int IntKind.u8 0, Value.int IntKind.u8 0, Value.int IntKind.u8 0, Value.int IntKind.u8 0, Value.int IntKind.u8 0, Value.int IntKind.u8 0, Value.int IntKind.u8 0, Value.int IntKind.u8 0, Value.int IntKind.u8 0, Value.int IntKind.u8 0, Value.int IntKind.u8 0, Value.int IntKind.u8 0, Value.int IntKind.u8 0, Value.int IntKind.u8 0, Value.int IntKind.u8 0, Value.int IntKind.u8 0, Value.int IntKind.u8 0, Value.int IntKind.u8 0, Value.int IntKind.u8 0, Value.int IntKind.u8 0, Value.int IntKind.u8 0] 37)) = w2 at *
  generalize w.heap.size + 1 = g2 at *
  obtain ⟨g1, hg1⟩ : ∃ g1, g1 = w.heap.size := ⟨_, rfl⟩
  rw [← hg1] at K1 ⊢
  replace hg1 := Lib.hid hg1
  replace K2a : Hid (Blk w2 g2 37 (bytesS (List.replicate 32 0))) := K2a
  clear P0 K0 HK0 HB0 B0 B2a
  have HE := Lib.hid (encode19_any p w2 _ P1.out)
  cases hpb : patB p
  · go_wp2_with (refine wpList_load_row rfl 31 _ (by rfl) g1 (by rfl) _ _ _ _ K1.out underPat rfl infoPat ?_)
    refine HE.out.mono ?_
    rintro e w3 ⟨-, h4⟩
    obtain ⟨rfl, b4⟩ := h4 hpb
    have K3 : Hid (Blk w3 g2 37 (bytesS (List.replicate 32 0))) := K2a.out.ext b4
    have B3 := Lib.hid (B1.out.trans (b4.mono B1.out.size))
    have KN : Hid (Blk (w3.setRow g2 #[.int .u8 0, .int .u8 0, .int .u8 0, .int .u8 0, .int .u8 0, .int .u8 0, .int .u8 0, .int .u8 0, .int .u8 0, .int .u8 0, .int .u8 0, .int .u8 0, .int .u8 0, .int .u8 0, .int .u8 0, .int .u8 0, .int .u8 0, .int .u8 0, .int .u8 0, .int .u8 0, .int .u8 0, .int .u8 0, .int .u8 0, .int .u8 0, .int .u8 0, .int .u8 0, .int .u8 0, .int .u8 0, .int .u8 0, .int .u8 0, .int .u8 0, .int .u8 0]) g2 37 #[.int .u8 0, .int .u8 0, .int .u8 0, .int .u8 0, .int .u8 0, .int .u8 0, .int .u8 0, .int .u8 0, .int .u8 0, .int .u8 0, .int .u8 0, .int .u8 0, .int .u8 0, .int .u8 0, .int .u8 0, .int .u8 0, .int .u8 0, .int .u8 0, .int .u8 0, .int .u8 0, .int .u8 0, .int .u8 0, .int .u8 0, .int .u8 0, .int .u8 0, .int .u8 0, .int .u8 0, .int .u8 0, .int .u8 0, .int .u8 0, .int .u8 0, .int .u8 0]) := K3.out.row _
    have BN := Lib.hid (below_setRow B3.out GL.out #[.int .u8 0, .int .u8 0, .int .u8 0, .int .u8 0, .int .u8 0, .int .u8 0, .int .u8 0, .int .u8 0, .int .u8 0, .int .u8 0, .int .u8 0, .int .u8 0, .int .u8 0, .int .u8 0, .int .u8 0, .int .u8 0, .int .u8 0, .int .u8 0, .int .u8 0, .int .u8 0, .int .u8 0, .int .u8 0, .int .u8 0, .int .u8 0, .int .u8 0, .int .u8 0, .int .u8 0, .int .u8 0, .int .u8 0, .int .u8 0, .int .u8 0, .int .u8 0])
    clear b4 h4 HE K1 P1 HK1 HB1 B1 K2a
    go_wp2_with (refine wpList_store_row rfl 37 _ _ (by rfl) g2 #[.int .u8 0, .int .u8 0, .int .u8 0, .int .u8 0, .int .u8 0, .int .u8 0, .int .u8 0, .int .u8 0, .int .u8 0, .int .u8 0, .int .u8 0, .int .u8 0, .int .u8 0, .int .u8 0, .int .u8 0, .int .u8 0, .int .u8 0, .int .u8 0, .int .u8 0, .int .u8 0, .int .u8 0, .int .u8 0, .int .u8 0, .int .u8 0, .int .u8 0, .int .u8 0, .int .u8 0, .int .u8 0, .int .u8 0, .int .u8 0, .int .u8 0, .int .u8 0] (by rfl) (by rfl) _ _ K3.out (by rw [infoB32]; rfl) (by rw [bytesS_size, List.length_replicate]; rfl) (by rw [← zero32]; exact bytesS_one _) ?_)
    refine bodyPost_ret (results_cellS rfl _ _ g2 _ #[.int .u8 0, .int .u8 0, .int .u8 0, .int .u8 0, .int .u8 0, .int .u8 0, .int .u8 0, .int .u8 0, .int .u8 0, .int .u8 0, .int .u8 0, .int .u8 0, .int .u8 0, .int .u8 0, .int .u8 0, .int .u8 0, .int .u8 0, .int .u8 0, .int .u8 0, .int .u8 0, .int .u8 0, .int .u8 0, .int .u8 0, .int .u8 0, .int .u8 0, .int .u8 0, .int .u8 0, .int .u8 0, .int .u8 0, .int .u8 0, .int .u8 0, .int .u8 0] _ rfl KN.out Tryz.underlying37 rfl (by rw [infoB32]; rfl)) rfl ?_
    unfold fpB
    rw [if_neg (by rw [hpb]; exact Bool.false_ne_true)]
    rw [zero32]
    exact ⟨rfl, BN.out⟩
  · have hl := patBytes_len hpb
    go_wp2_with (refine wpList_load_row rfl 31 _ (by rfl) g1 (by rfl) _ _ _ _ K1.out underPat rfl infoPat ?_)
    refine HE.out.mono ?_
    rintro e w3 ⟨h4, -⟩
    obtain ⟨v, rfl, own, b4⟩ := h4 hpb
    obtain ⟨A5, c5, rfl, ba⟩ := own_bytes own rfl
    have K3 : Hid (Blk w3 g2 37 (bytesS (List.replicate 32 0))) := K2a.out.ext b4
    have B3 := Lib.hid (B1.out.trans (b4.mono B1.out.size))
    have HK3 := Lib.hid (shaK_ext HK1.out b4)
    have HB3 := Lib.hid (shaB_ext HB1.out b4)
    have H3 := Lib.hid ba
    clear b4 h4 HE K1 P1 HK1 HB1 B1 K2a own ba
    obtain ⟨l, hpe⟩ : ∃ l, l = patBytes p := ⟨_, rfl⟩
    rw [← hpe] at H3 hl ⊢
    have HPE : Hid (patBytes p = l) := hpe.symm
    clear hpe
    go_wp2_with fail
    have BL := Lib.hid (below_new w3 (.cells #[.slice A5 l.length c5] 46))
    refine (sum_any l _ w3.heap.size 1 A5 l.length c5 ((Blk.new w3 46 #[.slice A5 l.length c5]).cell 0) (by rw [World.alloc]; simp only [Array.size_push]; omega) (H3.out.ext BL.out) (by omega) (shaK_ext HK3.out BL.out) (shaB_ext HB3.out BL.out)).mono ?_
    rintro e w4 ⟨rfl, b5⟩
    have b4 := Lib.hid (BL.out.trans (b5.mono BL.out.size))
    have B4 := Lib.hid (B3.out.trans (b4.out.mono B3.out.size))
    have K4 := Lib.hid (K3.out.ext b4.out)
    have BN := Lib.hid (below_setRow B4.out GL.out (bytesS (sumS kS hS l)))
    clear b5 BL B3 K3 H3 HK3 HB3 b4
    go_wp2_with (refine wpList_store_row rfl 37 _ _ (by rfl) g2 (bytesS (sumS kS hS l)) (by rfl) (by rfl) _ _ K4.out (by rw [infoB32, bytesS_size, sumS_len]) (by rw [bytesS_size, bytesS_size, sumS_len, List.length_replicate]) (bytesS_one _) ?_)
    refine bodyPost_ret (results_cellS rfl _ _ g2 _ (bytesS (sumS kS hS l)) _ rfl (K4.out.row _) Tryz.underlying37 rfl (by rw [infoB32, bytesS_size, sumS_len])) rfl ?_
    unfold fpB
    rw [if_pos hpb, HPE.out]
    exact ⟨rfl, BN.out⟩
end Go.Proofs.YtihggkmjalofiaaGreatDoor

/- A fingerprint's first digits; the chapter's example. -/
namespace Go.Proofs.YtihggkmjalofiaaGreatDoor
open Go.RowKit

theorem sliceF8 (S : ByteArray) (n : Nat) (h : (n : Int) ≤ ((S.size : Nat) : Int)) (w : World) : (Instr.sliceAt 9 (.string S) none (some (.int .i64 (n : Int))) none).run Tryz.prog w = .ok (.string (S.extract 0 n)) w := by
  have h0 : (0 : Int) ≤ (n : Int) := by omega
  simp [go_sem, h, h0]
theorem exSliceF {P : Program} {ρ : Operand → Value} {w : World} {d : Option Tmp} {ty t : TypeId} {pos : String} {after : Array Edge} {gd : Option (Nat × Bool)} {x : Operand} {lo hi mx : Option Operand} {xv v : Value} {lv hv mv : Option Value} (hx : ρ x = xv) (hl : lo.map ρ = lv) (hh : hi.map ρ = hv) (hm : mx.map ρ = mv) (hr : (Instr.sliceAt t xv lv hv mv).run P w = .ok v w) : (execOp ρ ⟨d, .slice t x lo hi mx, ty, pos, after, gd⟩).run P w = .ok (.value v) w := by
  unfold execOp
  simp only [hx, hl, hh, hm, Sem.run_bind, hr, Result.andThen_ok, Sem.run_pure]
theorem bytesOf_size (l : List UInt8) : (bytesOf l).size = l.length := by unfold bytesOf; simp [ByteArray.size]
set_option maxRecDepth 100000 in
set_option maxHeartbeats 4000000 in
theorem short_any (b : List UInt8) (hb : b.length = 32) (w : World) : Calls Tryz.prog 26 #[.agg (bytesS b)] w (RetB w (.string ((bytesOf (hexL b)).extract 0 8))) := by
  have K0 : Hid (Blk (w.alloc (.cells (bytesS b) 37)) w.heap.size 37 (bytesS b)) := Blk.new _ _ _
  have B0 : Hid (Below w.heap.size w (w.alloc (.cells (bytesS b) 37))) := below_new _ _
  have HL := Lib.hid hb
  have SL := Lib.hid (fun u : World => sliceF8 (bytesOf (hexL b)) 8 (by rw [bytesOf_size, hexL_len, hb]; decide) u)
  clear hb
  go_enter Tryz.func26, Tryz.ntmps26
  go_upto_region 1 with fail
  generalize (w.alloc (.cells (bytesS b) 37)) = w1 at *
  generalize hg : w.heap.size = g1 at *
  have HH := Lib.hid (hex_any b HL.out w1)
  go_wp2_with (refine wpList_load_row rfl 37 _ (by rfl) g1 (by rfl) _ _ _ _ K0.out Tryz.underlying37 rfl (by rw [infoB32, bytesS_size, HL.out]) ?_)
  refine HH.out.mono ?_
  rintro e w2 ⟨rfl, b2⟩
  have B2 := Lib.hid (B0.out.trans (b2.mono (by rw [← hg] at *; exact B0.out.size)))
  clear b2 HH K0 B0
  go_wp2_with (refine wpL_val rfl (exSliceF rfl rfl rfl rfl (SL.out _)) ?_)
  go_ret
  exact ⟨rfl, by rw [hg]; exact B2.out⟩
def intsF (b : List UInt8) : List Int := b.map fun x => ((x.toNat : Nat) : Int)
theorem bytesS_ints (b : List UInt8) : bytesS b = ((intsF b).map (Value.int .u8)).toArray := by
  unfold bytesS intsF
  congr 1
  induction b with
  | nil => rfl
  | cons x xs ih =>
    rw [List.map_cons, List.map_cons, ← ih]
    rfl
theorem intsF_inj {a b : List UInt8} : intsF a = intsF b ↔ a = b := by
  refine ⟨fun h => ?_, fun h => by rw [h]⟩
  unfold intsF at h
  induction a generalizing b with
  | nil => cases b with
    | nil => rfl
    | cons y ys => simp at h
  | cons x xs ih => cases b with
    | nil => simp at h
    | cons y ys =>
      simp only [List.map_cons, List.cons.injEq] at h
      have hxy : x = y := UInt8.toNat_inj.1 (by have := h.1; omega)
      rw [hxy, ih h.2]
theorem underU8 : Tryz.prog.underlying 5 = some (.int .u8) := by kernel_rfl
theorem eqlF (a b : List UInt8) (ha : a.length = 32) (hb : b.length = 32) (w : World) : (binOp .eql 37 (.agg (bytesS a)) (.agg (bytesS b))).run Tryz.prog w = .ok (.bool (decide (a = b))) w := by
  rw [bytesS_ints, bytesS_ints, run_eql_ints under32F underU8 isAggF8 sizeOfF8 _ _ (by unfold intsF; rw [List.length_map, ha]) (by unfold intsF; rw [List.length_map, hb])]
  simp only [intsF_inj]
theorem eqF (b : List UInt8) (hb : b.length = 32) (w : World) : (binOp .eql 37 (.agg (bytesS b)) (.agg (bytesS b))).run Tryz.prog w = .ok (.bool true) w := by
  rw [eqlF b b hb hb, decide_eq_true rfl]
theorem grdF (x y : Operand) (a b : List UInt8) (w : World) : (eqGuard .eql 37 x y (.agg (bytesS a)) (.agg (bytesS b))).run Tryz.prog w = .ok () w := by kernel_rfl
theorem eqStrF (s : ByteArray) (w : World) : (binOp .eql 9 (.string s) (.string s)).run Tryz.prog w = .ok (.bool true) w := by
  simp [go_sem]
theorem eq88 (w : World) : (binOp .eql 3 (.int .i64 8) (.int .i64 8)).run Tryz.prog w = .ok (.bool true) w := by
  simp [go_sem]
theorem buildP0 (w : World) : (Instr.build 31 #[]).run Tryz.prog w = .ok (.agg #[.int .u8 0, .int .u16 0, .slice none 0 0, .slice none 0 0]) w := by kernel_rfl
theorem buildZ_32 (w : World) : (Instr.build 37 #[]).run Tryz.prog w = .ok (.agg (bytesS (List.replicate 32 0))) w := by kernel_rfl
theorem pat0_at (w : World) : PatAt w [.int .u8 0, .int .u16 0, .slice none 0 0, .slice none 0 0] ((0, 0), [], []) :=
  ⟨⟨none, 0, none, 0, rfl, ⟨rfl, rfl, fun h => absurd h (by decide)⟩, ⟨rfl, ⟨rfl, fun h => absurd h (by decide)⟩, fun o ho => by cases ho⟩⟩, by decide, by decide⟩
theorem fp0 : fpB ((0, 0), [], []) = List.replicate 32 0 := by
  unfold fpB
  rw [if_neg (by decide)]
theorem fp1 : fpB w19p = sumS kS hS [1, 1, 1, 1] := by
  unfold fpB
  rw [if_pos w19_ok, w19_bytes]
theorem buildB4 (w : World) : (Instr.buildSlice 46 4 #[(0, .int .u8 1), (1, .int .u8 1), (2, .int .u8 1), (3, .int .u8 1)]).run Tryz.prog w = .ok (.slice (some ⟨w.heap.size, 0, none⟩) 4 4) (w.alloc (.cells #[.int .u8 1, .int .u8 1, .int .u8 1, .int .u8 1] 5)) := by kernel_rfl
theorem exB4 {ρ : Operand → Value} {w : World} {d : Option Tmp} {ty : TypeId} {pos : String} {after : Array Edge} {gd : Option (Nat × Bool)} {parts : Array (Nat × Operand)} (hp : (parts.map fun (i, x) => (i, ρ x)) = #[(0, .int .u8 1), (1, .int .u8 1), (2, .int .u8 1), (3, .int .u8 1)]) : (execOp ρ ⟨d, .buildSlice 46 4 parts, ty, pos, after, gd⟩).run Tryz.prog w = .ok (.value (.slice (some ⟨w.heap.size, 0, none⟩) 4 4)) (w.alloc (.cells #[.int .u8 1, .int .u8 1, .int .u8 1, .int .u8 1] 5)) := by
  unfold execOp
  simp only [hp, Sem.run_bind, buildB4, Result.andThen_ok, Sem.run_pure]
theorem buildBss (A : Option Addr) (n c : Nat) (w : World) : (Instr.buildSlice 235 1 #[(0, .slice A n c)]).run Tryz.prog w = .ok (.slice (some ⟨w.heap.size, 0, none⟩) 1 1) (w.alloc (.cells #[.slice A n c] 46)) := by kernel_rfl
theorem exBss {ρ : Operand → Value} {w : World} {d : Option Tmp} {ty : TypeId} {pos : String} {after : Array Edge} {gd : Option (Nat × Bool)} {x : Operand} {A : Option Addr} {n c : Nat} (hx : ρ x = .slice A n c) : (execOp ρ ⟨d, .buildSlice 235 1 #[(0, x)], ty, pos, after, gd⟩).run Tryz.prog w = .ok (.value (.slice (some ⟨w.heap.size, 0, none⟩) 1 1)) (w.alloc (.cells #[.slice A n c] 46)) := by
  unfold execOp
  simp only [List.map_toArray, List.map_cons, List.map_nil, hx, Sem.run_bind, buildBss, Result.andThen_ok, Sem.run_pure]
theorem ones_at (w : World) : BytesAt (w.alloc (.cells #[.int .u8 1, .int .u8 1, .int .u8 1, .int .u8 1] 5)) (some ⟨w.heap.size, 0, none⟩) 4 4 [1, 1, 1, 1] :=
  ⟨rfl, Nat.le_refl _, by unfold maxLen; omega, sl_fresh w _ 5 1 4 (encB [1, 1, 1, 1]) rfl rfl⟩
theorem lenF64 (u : World) : (Builtin.len_ #[9] 3 #[.string (bytesOf (hexL (fpB w19p)))]).run Tryz.prog u = .ok (.int .i64 64) u := by
  have e : (((bytesOf (hexL (fpB w19p))).size : Nat) : Int) = 64 := by rw [bytesOf_size, hexL_len, fpB_len]; rfl
  simp [go_sem, e]
theorem lenF8 (u : World) : (Builtin.len_ #[9] 3 #[.string ((bytesOf (hexL (fpB w19p))).extract 0 8)]).run Tryz.prog u = .ok (.int .i64 8) u := by
  have e : ((min 8 (bytesOf (hexL (fpB w19p))).size : Nat) : Int) = 8 := by rw [bytesOf_size, hexL_len, fpB_len]; rfl
  simp [go_sem, e]
theorem exLenS {P : Program} {ρ : Operand → Value} {w : World} {d : Option Tmp} {ty t : TypeId} {pos : String} {after : Array Edge} {gd : Option (Nat × Bool)} {x : Operand} {v : Value} (hr : (Builtin.len_ #[t] ty #[ρ x]).run P w = .ok v w) : (execOp ρ ⟨d, .call { callee := .builtin .len, args := #[x], argTypes := #[t] }, ty, pos, after, gd⟩).run P w = .ok (.value v) w := by
  simp [execOp, resolve, invoke, builtin, hr, Result.andThen]
theorem exMin8 {P : Program} {ρ : Operand → Value} {w : World} {d : Option Tmp} {ty : TypeId} {ts : Array TypeId} {pos : String} {after : Array Edge} {gd : Option (Nat × Bool)} {x y : Operand} (hx : ρ x = .int .i64 8) (hy : ρ y = .int .i64 64) : (execOp ρ ⟨d, .call { callee := .builtin .min, args := #[x, y], argTypes := ts }, ty, pos, after, gd⟩).run P w = .ok (.value (.int .i64 8)) w := by
  have hr : (Builtin.min_ ts ty #[.int .i64 8, .int .i64 64]).run P w = .ok (.int .i64 8) w := by
    simp only [Builtin.min_, List.foldlM, Builtin.min2]
    simp
  unfold execOp
  simp only [resolve, invoke, builtin, Sem.run_bind, Sem.run_pure, Result.andThen_ok, List.map_toArray, List.map_cons, List.map_nil, hx, hy, hr]
set_option maxRecDepth 100000 in
set_option maxHeartbeats 8000000 in
theorem works47 (w : World) (hK : ShaK w) (hB : ShaB w) : Calls Tryz.prog 12 #[] w (RetB w (.bool true)) := by
  have PA : Hid (PatAt (w.alloc (.cells #[.int .u8 1, .int .u8 0, .int .u16 0, .int .u8 0, .int .u8 0, .int .u16 0, .int .u8 0, .string ⟨#[]⟩] 122)) [.int .u8 1, .int .u16 1, .slice none 0 0, .slice (some ⟨w.heap.size, 0, none⟩) 1 1] w19p) := ⟨⟨none, 0, some ⟨w.heap.size, 0, none⟩, 1, rfl, ⟨rfl, rfl, fun h => absurd h (by decide)⟩, op19_at w⟩, by decide, by decide⟩
  have BA : Hid (Below w.heap.size w (w.alloc (.cells #[.int .u8 1, .int .u8 0, .int .u16 0, .int .u8 0, .int .u8 0, .int .u16 0, .int .u8 0, .string ⟨#[]⟩] 122))) := below_new _ _
  have HF := Lib.hid (fpatch_any w19p (w.alloc (.cells #[.int .u8 1, .int .u8 0, .int .u16 0, .int .u8 0, .int .u8 0, .int .u16 0, .int .u8 0, .string ⟨#[]⟩] 122)) [.int .u8 1, .int .u16 1, .slice none 0 0, .slice (some ⟨w.heap.size, 0, none⟩) 1 1] PA.out (shaK_ext hK BA.out) (shaB_ext hB BA.out))
  have HKA := Lib.hid (shaK_ext hK BA.out)
  have HBA := Lib.hid (shaB_ext hB BA.out)
  clear hK hB PA
  go_enter Tryz.func12, Tryz.ntmps12
  go_wp2_with fail
  refine HF.out.mono ?_
  rintro e w0 ⟨rfl, b1⟩
  have B0 := Lib.hid (BA.out.trans (b1.mono BA.out.size))
  have HK0 := Lib.hid (shaK_ext HKA.out b1)
  have HB0 := Lib.hid (shaB_ext HBA.out b1)
  clear b1 BA HKA HBA HF
  have KZ : Hid (Blk (w0.alloc (.cells #[.int .u8 0, .int .u8 0, .int .u8 0, .int .u8 0, .int .u8 0, .int .u8 0, .int .u8 0, .int .u8 0, .int .u8 0, .int .u8 0, .int .u8 0, .int .u8 0, .int .u8 0, .int .u8 0, .int .u8 0, .int .u8 0, .int .u8 0, .int .u8 0, .int .u8 0, .int .u8 0, .int .u8 0, .int .u8 0, .int .u8 0, .int .u8 0, .int .u8 0, .int .u8 0, .int .u8 0, .int .u8 0, .int .u8 0, .int .u8 0, .int .u8 0, .int .u8 0] 37)) w0.heap.size 37 #[.int .u8 0, .int .u8 0, .int .u8 0, .int .u8 0, .int .u8 0, .int .u8 0, .int .u8 0, .int .u8 0, .int .u8 0, .int .u8 0, .int .u8 0, .int .u8 0, .int .u8 0, .int .u8 0, .int .u8 0, .int .u8 0, .int .u8 0, .int .u8 0, .int .u8 0, .int .u8 0, .int .u8 0, .int .u8 0, .int .u8 0, .int .u8 0, .int .u8 0, .int .u8 0, .int .u8 0, .int .u8 0, .int .u8 0, .int .u8 0, .int .u8 0, .int .u8 0]) := Blk.new _ _ _
  have KN : Hid (Blk ((w0.alloc (.cells #[.int .u8 0, .int .u8 0, .int .u8 0, .int .u8 0, .int .u8 0, .int .u8 0, .int .u8 0, .int .u8 0, .int .u8 0, .int .u8 0, .int .u8 0, .int .u8 0, .int .u8 0, .int .u8 0, .int .u8 0, .int .u8 0, .int .u8 0, .int .u8 0, .int .u8 0, .int .u8 0, .int .u8 0, .int .u8 0, .int .u8 0, .int .u8 0, .int .u8 0, .int .u8 0, .int .u8 0, .int .u8 0, .int .u8 0, .int .u8 0, .int .u8 0, .int .u8 0] 37)).setRow w0.heap.size (bytesS (fpB w19p))) w0.heap.size 37 (bytesS (fpB w19p))) := KZ.out.row _
  have BN : Hid (Below w0.heap.size w0 ((w0.alloc (.cells #[.int .u8 0, .int .u8 0, .int .u8 0, .int .u8 0, .int .u8 0, .int .u8 0, .int .u8 0, .int .u8 0, .int .u8 0, .int .u8 0, .int .u8 0, .int .u8 0, .int .u8 0, .int .u8 0, .int .u8 0, .int .u8 0, .int .u8 0, .int .u8 0, .int .u8 0, .int .u8 0, .int .u8 0, .int .u8 0, .int .u8 0, .int .u8 0, .int .u8 0, .int .u8 0, .int .u8 0, .int .u8 0, .int .u8 0, .int .u8 0, .int .u8 0, .int .u8 0] 37)).setRow w0.heap.size (bytesS (fpB w19p)))) := below_setRow (below_new w0 _) (Nat.le_refl _) _
  go_upto_region 2 with (refine wpList_store_row rfl 37 _ _ (by rfl) w0.heap.size (bytesS (fpB w19p)) (by rfl) (by rfl) _ _ KZ.out (by rw [infoB32, bytesS_size, fpB_len]) (by rw [bytesS_size, fpB_len]; rfl) (bytesS_one _) ?_)
  have B1 := Lib.hid (B0.out.trans (BN.out.mono B0.out.size))
  have HK1 := Lib.hid (shaK_ext HK0.out BN.out)
  have HB1 := Lib.hid (shaB_ext HB0.out BN.out)
  clear KZ B0 HK0 HB0 BN
  generalize (w0.alloc (.cells #[.int .u8 0, .int .u8 0, .int .u8 0, .int .u8 0, .int .u8 0, .int .u8 0, .int .u8 0, .int .u8 0, .int .u8 0, .int .u8 0, .int .u8 0, .int .u8 0, .int .u8 0, .int .u8 0, .int .u8 0, .int .u8 0, .int .u8 0, .int .u8 0, .int .u8 0, .int .u8 0, .int .u8 0, .int .u8 0, .int .u8 0, .int .u8 0, .int .u8 0, .int .u8 0, .int .u8 0, .int .u8 0, .int .u8 0, .int .u8 0, .int .u8 0, .int .u8 0] 37)).setRow w0.heap.size (bytesS (fpB w19p)) = w1 at *
  generalize w0.heap.size = g1 at *
  have K1 := KN
  clear KN
  have hcS : ∀ args u, (callFunc 61 args).run Tryz.prog u = .ok (.enter 61 args) u := enters_of Tryz.func61 (by kernel_rfl) rfl
  have hcT : ∀ args u, (callFunc 26 args).run Tryz.prog u = .ok (.enter 26 args) u := enters_of Tryz.func26 (by kernel_rfl) rfl
  have hcH : ∀ args u, (callFunc 62 args).run Tryz.prog u = .ok (.enter 62 args) u := enters_of Tryz.func62 (by kernel_rfl) rfl
  have hcP : ∀ args u, (callFunc 20 args).run Tryz.prog u = .ok (.enter 20 args) u := enters_of Tryz.func20 (by kernel_rfl) rfl
  have LN := Lib.hid (fun u : World => lenF64 u)
  have LN8 := Lib.hid (fun u : World => lenF8 u)
  have SL8 := Lib.hid (fun u : World => sliceF8 (bytesOf (hexL (fpB w19p))) 8 (by rw [bytesOf_size, hexL_len, fpB_len]; decide) u)
  try go_frame
  refine wp_region_held (S := fun w' => Below w1.heap.size w1 w') mixedS ?_
  change wpAnyH _ _ _ _ _ _ _ _ w1.drew
  have BD : Hid (Below w1.heap.size w1 w1.drew) := (Below.refl _ _).drew
  have HKD := Lib.hid (shaK_ext HK1.out BD.out)
  have HBD := Lib.hid (shaB_ext HB1.out BD.out)
  clear HK1 HB1
  generalize w1.drew = wd at *
  simp only [List.size_toArray, List.length_cons, List.length_nil]
  refine takeV (i := 0) (d := 7) (v := .agg (bytesS (fpB w19p))) rfl (by kernel_rfl) (by kernel_rfl) (by kernel_rfl) (fun _ _ _ h => h) rfl (fun w' h => exRow_sh rfl (K1.out.ext h) Tryz.underlying37 rfl (by rw [infoB32, bytesS_size, fpB_len])) BD.out ?_
  simp only [Act.put, List.setIfInBounds_toArray, List.set_cons_zero, List.set_cons_succ]
  refine wpAnyH_all (rs := [1]) (by kernel_rfl) (by simp) ?_
  intro i hi
  simp only [List.mem_cons, List.not_mem_nil, or_false] at hi
  subst hi
  refine wpOp_of rfl rfl (wpPureW (v := .slice (some ⟨wd.heap.size, 0, none⟩) 4 4) (w' := wd.alloc (.cells #[.int .u8 1, .int .u8 1, .int .u8 1, .int .u8 1] 5)) (exB4 (by simp only [List.map_toArray, List.map_cons, List.map_nil]; rfl)) ?_)
  refine ⟨ext_trans BD.out (below_new _ _), ?_⟩
  simp only [Act.put, List.setIfInBounds_toArray, List.set_cons_zero, List.set_cons_succ]
  have h_1 : Below wd.heap.size wd (wd.alloc (.cells #[.int .u8 1, .int .u8 1, .int .u8 1, .int .u8 1] 5)) := below_new _ _
  have X_3 := Lib.hid (ones_at wd)
  generalize (wd.alloc (.cells #[.int .u8 1, .int .u8 1, .int .u8 1, .int .u8 1] 5)) = w_2 at *
  have B_5 := Lib.hid (ext_trans BD.out h_1)
  have F_6 := Lib.hid (shaK_ext HKD.out h_1)
  have F_7 := Lib.hid (shaB_ext HBD.out h_1)
  clear BD HKD HBD
  clear h_1
  generalize wd.heap.size = g_4 at *
  refine wpAnyH_all (rs := [2]) (by kernel_rfl) (by simp) ?_
  intro i hi
  simp only [List.mem_cons, List.not_mem_nil, or_false] at hi
  subst hi
  refine wpOp_of rfl rfl (wpPureW (v := .slice (some ⟨w_2.heap.size, 0, none⟩) 1 1) (w' := (w_2.alloc (.cells #[.slice (some ⟨g_4, 0, none⟩) 4 4] 46))) (exBss rfl) ?_)
  refine ⟨ext_trans B_5.out (below_new _ _), ?_⟩
  simp only [Act.put, List.setIfInBounds_toArray, List.set_cons_zero, List.set_cons_succ]
  have h_8 : Below w_2.heap.size w_2 (w_2.alloc (.cells #[.slice (some ⟨g_4, 0, none⟩) 4 4] 46)) := below_new _ _
  have Y_10 : Hid ((w_2.alloc (.cells #[.slice (some ⟨g_4, 0, none⟩) 4 4] 46)).cell? ⟨w_2.heap.size, 0, none⟩ = some (.slice (some ⟨g_4, 0, none⟩) 4 4)) := (Blk.new w_2 46 #[.slice (some ⟨g_4, 0, none⟩) 4 4]).cell 0
  have L_11 : Hid (w_2.heap.size < (w_2.alloc (.cells #[.slice (some ⟨g_4, 0, none⟩) 4 4] 46)).heap.size) := by rw [Hid, World.alloc]; simp only [Array.size_push]; omega
  generalize (w_2.alloc (.cells #[.slice (some ⟨g_4, 0, none⟩) 4 4] 46)) = w_9 at *
  have B_13 := Lib.hid (ext_trans B_5.out h_8)
  have F_14 := Lib.hid (shaK_ext F_6.out h_8)
  have F_15 := Lib.hid (shaB_ext F_7.out h_8)
  have F_16 := Lib.hid (X_3.out.ext h_8)
  clear B_5 F_6 F_7 X_3
  clear h_8
  generalize w_2.heap.size = g_12 at *
  refine wpAnyH_all (rs := [3]) (by kernel_rfl) (by simp) ?_
  intro i hi
  simp only [List.mem_cons, List.not_mem_nil, or_false] at hi
  subst hi
  refine wpOp_of rfl rfl (wp_called (args := #[.slice (some ⟨g_12, 0, none⟩) 1 1]) hcS (by simp only [List.map_toArray, List.map_cons, List.map_nil]; rfl) (sum_any [1, 1, 1, 1] w_9 g_12 1 _ 4 4 Y_10.out L_11.out F_16.out (by omega) F_14.out F_15.out) ?_)
  rintro e w_17 ⟨rfl, h_18⟩
  refine ⟨_, rfl, ext_trans B_13.out h_18, ?_⟩
  simp only [Act.put, List.setIfInBounds_toArray, List.set_cons_zero, List.set_cons_succ]
  have B_19 := Lib.hid (ext_trans B_13.out h_18)
  have F_20 := Lib.hid (shaK_ext F_14.out h_18)
  have F_21 := Lib.hid (shaB_ext F_15.out h_18)
  have F_22 := Lib.hid (F_16.out.ext h_18)
  clear B_13 F_14 F_15 F_16
  clear h_18
  refine takeV (i := 4) (d := 11) (v := .bool true) rfl (by kernel_rfl) (by kernel_rfl) (by kernel_rfl) (fun _ _ _ h => h) rfl (fun w' _ => exBin rfl rfl (grdF _ _ _ _ _) (by rw [← fp1]; exact eqF _ (fpB_len _) _)) B_19.out ?_
  simp only [Act.put, List.setIfInBounds_toArray, List.set_cons_zero, List.set_cons_succ]
  refine takeV (i := 5) (d := 12) (v := .bool true) rfl (by kernel_rfl) (by kernel_rfl) (by kernel_rfl) (fun _ _ _ h => h) rfl (fun _ _ => exMove (v := .bool true) rfl) B_19.out ?_
  simp only [Act.put, List.setIfInBounds_toArray, List.set_cons_zero, List.set_cons_succ]
  refine takeV (i := 6) (d := 13) (v := .agg (bytesS (fpB w19p))) rfl (by kernel_rfl) (by kernel_rfl) (by kernel_rfl) (fun _ _ _ h => h) rfl (fun w' h => exRow_sh rfl (K1.out.ext h) Tryz.underlying37 rfl (by rw [infoB32, bytesS_size, fpB_len])) B_19.out ?_
  simp only [Act.put, List.setIfInBounds_toArray, List.set_cons_zero, List.set_cons_succ]
  refine takeV (i := 8) (d := 15) (v := .agg (bytesS (fpB w19p))) rfl (by kernel_rfl) (by kernel_rfl) (by kernel_rfl) (fun _ _ _ h => h) rfl (fun w' h => exRow_sh rfl (K1.out.ext h) Tryz.underlying37 rfl (by rw [infoB32, bytesS_size, fpB_len])) B_19.out ?_
  simp only [Act.put, List.setIfInBounds_toArray, List.set_cons_zero, List.set_cons_succ]
  refine takeV (i := 10) (d := 17) (v := .agg (bytesS (fpB w19p))) rfl (by kernel_rfl) (by kernel_rfl) (by kernel_rfl) (fun _ _ _ h => h) rfl (fun w' h => exRow_sh rfl (K1.out.ext h) Tryz.underlying37 rfl (by rw [infoB32, bytesS_size, fpB_len])) B_19.out ?_
  simp only [Act.put, List.setIfInBounds_toArray, List.set_cons_zero, List.set_cons_succ]
  refine wpAnyH_all (rs := [7]) (by kernel_rfl) (by simp) ?_
  intro i hi
  simp only [List.mem_cons, List.not_mem_nil, or_false] at hi
  subst hi
  refine wpOp_of rfl rfl (wp_called (args := #[.agg (bytesS (fpB w19p))]) hcT (by simp only [List.map_toArray, List.map_cons, List.map_nil]; rfl) (short_any (fpB w19p) (fpB_len _) w_17) ?_)
  rintro e w_23 ⟨rfl, h_24⟩
  refine ⟨_, rfl, ext_trans B_19.out h_24, ?_⟩
  simp only [Act.put, List.setIfInBounds_toArray, List.set_cons_zero, List.set_cons_succ]
  have B_25 := Lib.hid (ext_trans B_19.out h_24)
  have F_26 := Lib.hid (shaK_ext F_20.out h_24)
  have F_27 := Lib.hid (shaB_ext F_21.out h_24)
  have F_28 := Lib.hid (F_22.out.ext h_24)
  clear B_19 F_20 F_21 F_22
  clear h_24
  refine wpAnyH_all (rs := [9]) (by kernel_rfl) (by simp) ?_
  intro i hi
  simp only [List.mem_cons, List.not_mem_nil, or_false] at hi
  subst hi
  refine wpOp_of rfl rfl (wp_called (args := #[.agg (bytesS (fpB w19p))]) hcH (by simp only [List.map_toArray, List.map_cons, List.map_nil]; rfl) (hex_any (fpB w19p) (fpB_len _) w_23) ?_)
  rintro e w_29 ⟨rfl, h_30⟩
  refine ⟨_, rfl, ext_trans B_25.out h_30, ?_⟩
  simp only [Act.put, List.setIfInBounds_toArray, List.set_cons_zero, List.set_cons_succ]
  have B_31 := Lib.hid (ext_trans B_25.out h_30)
  have F_32 := Lib.hid (shaK_ext F_26.out h_30)
  have F_33 := Lib.hid (shaB_ext F_27.out h_30)
  have F_34 := Lib.hid (F_28.out.ext h_30)
  clear B_25 F_26 F_27 F_28
  clear h_30
  refine wpAnyH_all (rs := [11]) (by kernel_rfl) (by simp) ?_
  intro i hi
  simp only [List.mem_cons, List.not_mem_nil, or_false] at hi
  subst hi
  refine wpOp_of rfl rfl (wp_called (args := #[.agg (bytesS (fpB w19p))]) hcH (by simp only [List.map_toArray, List.map_cons, List.map_nil]; rfl) (hex_any (fpB w19p) (fpB_len _) w_29) ?_)
  rintro e w_35 ⟨rfl, h_36⟩
  refine ⟨_, rfl, ext_trans B_31.out h_36, ?_⟩
  simp only [Act.put, List.setIfInBounds_toArray, List.set_cons_zero, List.set_cons_succ]
  have B_37 := Lib.hid (ext_trans B_31.out h_36)
  have F_38 := Lib.hid (shaK_ext F_32.out h_36)
  have F_39 := Lib.hid (shaB_ext F_33.out h_36)
  have F_40 := Lib.hid (F_34.out.ext h_36)
  clear B_31 F_32 F_33 F_34
  clear h_36
  refine takeV (i := 12) (d := 19) (v := .int .i64 64) rfl (by kernel_rfl) (by kernel_rfl) (by kernel_rfl) (fun _ _ _ h => h) rfl (fun w' _ => exLenS (LN.out w')) B_37.out ?_
  simp only [Act.put, List.setIfInBounds_toArray, List.set_cons_zero, List.set_cons_succ]
  refine takeV (i := 13) (d := 20) (v := .int .i64 8) rfl (by kernel_rfl) (by kernel_rfl) (by kernel_rfl) (fun _ _ _ h => h) rfl (fun w' _ => exMin8 rfl rfl) B_37.out ?_
  simp only [Act.put, List.setIfInBounds_toArray, List.set_cons_zero, List.set_cons_succ]
  refine takeV (i := 14) (d := 21) (v := .string ((bytesOf (hexL (fpB w19p))).extract 0 8)) rfl (by kernel_rfl) (by kernel_rfl) (by kernel_rfl) (fun _ _ _ h => h) rfl (fun w' _ => exSliceF rfl rfl rfl rfl (SL8.out w')) B_37.out ?_
  simp only [Act.put, List.setIfInBounds_toArray, List.set_cons_zero, List.set_cons_succ]
  refine takeV (i := 15) (d := 22) (v := .bool true) rfl (by kernel_rfl) (by kernel_rfl) (by kernel_rfl) (fun _ _ _ h => h) rfl (fun w' _ => exBin rfl rfl (by rfl) (eqStrF _ _)) B_37.out ?_
  simp only [Act.put, List.setIfInBounds_toArray, List.set_cons_zero, List.set_cons_succ]
  refine takeV (i := 16) (d := 23) (v := .bool true) rfl (by kernel_rfl) (by kernel_rfl) (by kernel_rfl) (fun _ _ _ h => h) rfl (fun _ _ => exPickT (v := .bool true) rfl rfl) B_37.out ?_
  simp only [Act.put, List.setIfInBounds_toArray, List.set_cons_zero, List.set_cons_succ]
  refine takeV (i := 17) (d := 24) (v := .bool true) rfl (by kernel_rfl) (by kernel_rfl) (by kernel_rfl) (fun _ _ _ h => h) rfl (fun _ _ => exMove (v := .bool true) rfl) B_37.out ?_
  simp only [Act.put, List.setIfInBounds_toArray, List.set_cons_zero, List.set_cons_succ]
  refine takeV (i := 18) (d := 25) (v := .agg #[.int .u8 0, .int .u16 0, .slice none 0 0, .slice none 0 0]) rfl (by kernel_rfl) (by kernel_rfl) (by kernel_rfl) (fun _ _ _ h => h) rfl (fun w' _ => exBuild (vs := #[]) (by simp only [List.map_toArray, List.map_nil]) (buildP0 w')) B_37.out ?_
  simp only [Act.put, List.setIfInBounds_toArray, List.set_cons_zero, List.set_cons_succ]
  refine takeV (i := 20) (d := 27) (v := .agg (bytesS (List.replicate 32 0))) rfl (by kernel_rfl) (by kernel_rfl) (by kernel_rfl) (fun _ _ _ h => h) rfl (fun w' _ => exBuild (vs := #[]) (by simp only [List.map_toArray, List.map_nil]) (buildZ_32 w')) B_37.out ?_
  simp only [Act.put, List.setIfInBounds_toArray, List.set_cons_zero, List.set_cons_succ]
  refine wpAnyH_all (rs := [19]) (by kernel_rfl) (by simp) ?_
  intro i hi
  simp only [List.mem_cons, List.not_mem_nil, or_false] at hi
  subst hi
  refine wpOp_of rfl rfl (wp_called (args := #[.agg #[.int .u8 0, .int .u16 0, .slice none 0 0, .slice none 0 0]]) hcP (by simp only [List.map_toArray, List.map_cons, List.map_nil]; rfl) (fpatch_any ((0, 0), [], []) w_35 [.int .u8 0, .int .u16 0, .slice none 0 0, .slice none 0 0] (pat0_at _) F_38.out F_39.out) ?_)
  rintro e w_41 ⟨rfl, h_42⟩
  refine ⟨_, rfl, ext_trans B_37.out h_42, ?_⟩
  simp only [Act.put, List.setIfInBounds_toArray, List.set_cons_zero, List.set_cons_succ]
  have B_43 := Lib.hid (ext_trans B_37.out h_42)
  have F_44 := Lib.hid (shaK_ext F_38.out h_42)
  have F_45 := Lib.hid (shaB_ext F_39.out h_42)
  have F_46 := Lib.hid (F_40.out.ext h_42)
  clear B_37 F_38 F_39 F_40
  clear h_42
  refine takeV (i := 21) (d := 28) (v := .bool true) rfl (by kernel_rfl) (by kernel_rfl) (by kernel_rfl) (fun _ _ _ h => h) rfl (fun w' _ => exBin rfl rfl (grdF _ _ _ _ _) (by rw [fp0]; exact eqF _ (List.length_replicate) _)) B_43.out ?_
  simp only [Act.put, List.setIfInBounds_toArray, List.set_cons_zero, List.set_cons_succ]
  refine takeV (i := 22) (d := 29) (v := .bool true) rfl (by kernel_rfl) (by kernel_rfl) (by kernel_rfl) (fun _ _ _ h => h) rfl (fun _ _ => exPickT (v := .bool true) rfl rfl) B_43.out ?_
  simp only [Act.put, List.setIfInBounds_toArray, List.set_cons_zero, List.set_cons_succ]
  refine takeV (i := 23) (d := 30) (v := .bool true) rfl (by kernel_rfl) (by kernel_rfl) (by kernel_rfl) (fun _ _ _ h => h) rfl (fun _ _ => exMove (v := .bool true) rfl) B_43.out ?_
  simp only [Act.put, List.setIfInBounds_toArray, List.set_cons_zero, List.set_cons_succ]
  refine takeV (i := 24) (d := 31) (v := .agg (bytesS (fpB w19p))) rfl (by kernel_rfl) (by kernel_rfl) (by kernel_rfl) (fun _ _ _ h => h) rfl (fun w' h => exRow_sh rfl (K1.out.ext h) Tryz.underlying37 rfl (by rw [infoB32, bytesS_size, fpB_len])) B_43.out ?_
  simp only [Act.put, List.setIfInBounds_toArray, List.set_cons_zero, List.set_cons_succ]
  refine wpAnyH_all (rs := [25]) (by kernel_rfl) (by simp) ?_
  intro i hi
  simp only [List.mem_cons, List.not_mem_nil, or_false] at hi
  subst hi
  refine wpOp_of rfl rfl (wp_called (args := #[.agg (bytesS (fpB w19p))]) hcT (by simp only [List.map_toArray, List.map_cons, List.map_nil]; rfl) (short_any (fpB w19p) (fpB_len _) w_41) ?_)
  rintro e w_47 ⟨rfl, h_48⟩
  refine ⟨_, rfl, ext_trans B_43.out h_48, ?_⟩
  simp only [Act.put, List.setIfInBounds_toArray, List.set_cons_zero, List.set_cons_succ]
  have B_49 := Lib.hid (ext_trans B_43.out h_48)
  have F_50 := Lib.hid (shaK_ext F_44.out h_48)
  have F_51 := Lib.hid (shaB_ext F_45.out h_48)
  have F_52 := Lib.hid (F_46.out.ext h_48)
  clear B_43 F_44 F_45 F_46
  clear h_48
  refine takeV (i := 26) (d := 33) (v := .int .i64 8) rfl (by kernel_rfl) (by kernel_rfl) (by kernel_rfl) (fun _ _ _ h => h) rfl (fun w' _ => exLenS (LN8.out w')) B_49.out ?_
  simp only [Act.put, List.setIfInBounds_toArray, List.set_cons_zero, List.set_cons_succ]
  refine takeV (i := 27) (d := 34) (v := .bool true) rfl (by kernel_rfl) (by kernel_rfl) (by kernel_rfl) (fun _ _ _ h => h) rfl (fun w' _ => exBin rfl rfl (by rfl) (eq88 _)) B_49.out ?_
  simp only [Act.put, List.setIfInBounds_toArray, List.set_cons_zero, List.set_cons_succ]
  refine takeV (i := 28) (d := 35) (v := .bool true) rfl (by kernel_rfl) (by kernel_rfl) (by kernel_rfl) (fun _ _ _ h => h) rfl (fun _ _ => exPickT (v := .bool true) rfl rfl) B_49.out ?_
  simp only [Act.put, List.setIfInBounds_toArray, List.set_cons_zero, List.set_cons_succ]
  refine takeV (i := 29) (d := 0) (v := .bool true) rfl (by kernel_rfl) (by kernel_rfl) (by kernel_rfl) (fun _ _ _ h => h) rfl (fun _ _ => exAssign (v := .bool true) rfl) B_49.out ?_
  simp only [Act.put, List.setIfInBounds_toArray, List.set_cons_zero]
  refine wpAnyH_done (by kernel_rfl) ?_ _
  have BE := Lib.hid (B1.out.trans (B_49.out.mono B1.out.size))
  clear B_49 F_50 F_51 F_52
  go_wp2_with fail
  go_ret
  exact ⟨rfl, BE.out⟩
end Go.Proofs.YtihggkmjalofiaaGreatDoor
