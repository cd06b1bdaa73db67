/- A sum's digits. -/
import Derived.Test.YtihggkmjalofiaaDoorPcds
import Derived.Test.YtihggkmjalofiaaDoorShag
import Derived.Test.YtihggkmjalofiaaDoorBufs
import Derived.Test.YtihggkmjalofiaaDoorGen
import Derived.Test.YtihggkmjalofiaaDoorIdxw
namespace Go.Proofs.YtihggkmjalofiaaDoor
open Go.RowKit

def hexD (n : Nat) : UInt8 := if n < 10 then UInt8.ofNat (48 + n) else UInt8.ofNat (87 + n)
def hexL (b : List UInt8) : List UInt8 := b.flatMap fun c => [hexD (c.toNat / 16), hexD (c.toNat % 16)]
theorem hexL_len (b : List UInt8) : (hexL b).length = 2 * b.length := by
  induction b with
  | nil => rfl
  | cons x xs ih =>
    have e : hexL (x :: xs) = hexD (x.toNat / 16) :: hexD (x.toNat % 16) :: hexL xs := rfl
    rw [e, List.length_cons, List.length_cons, ih, List.length_cons]
    omega
theorem hexL_next {b : List UInt8} {k : Nat} {c : UInt8} (h : b[k]? = some c) : hexL (b.take (k + 1)) = hexL (b.take k) ++ [hexD (c.toNat / 16), hexD (c.toNat % 16)] := by
  rw [List.take_add_one, h]
  unfold hexL
  rw [List.flatMap_append]
  rfl
abbrev digitsF : ByteArray := ⟨#[48, 49, 50, 51, 52, 53, 54, 55, 56, 57, 97, 98, 99, 100, 101, 102]⟩
theorem digitF (k : Nat) (hk : k < 16) (w : World) : (Instr.index 9 (.string digitsF) (.int .u8 ((k : Nat) : Int))).run Tryd.prog w = .ok (.int .u8 (((hexD k).toNat : Nat) : Int)) w :=
  match k, hk with
  | 0, _ => by kernel_rfl
  | 1, _ => by kernel_rfl
  | 2, _ => by kernel_rfl
  | 3, _ => by kernel_rfl
  | 4, _ => by kernel_rfl
  | 5, _ => by kernel_rfl
  | 6, _ => by kernel_rfl
  | 7, _ => by kernel_rfl
  | 8, _ => by kernel_rfl
  | 9, _ => by kernel_rfl
  | 10, _ => by kernel_rfl
  | 11, _ => by kernel_rfl
  | 12, _ => by kernel_rfl
  | 13, _ => by kernel_rfl
  | 14, _ => by kernel_rfl
  | 15, _ => by kernel_rfl
  | n + 16, h => absurd h (by omega)
theorem exIdxF {P : Program} {ρ : Operand → Value} {w : World} {d : Option Tmp} {ty s : TypeId} {pos : String} {after : Array Edge} {gd : Option (Nat × Bool)} {x y : Operand} {xv yv v : Value} (hx : ρ x = xv) (hy : ρ y = yv) (hr : (Instr.index s xv yv).run P w = .ok v w) : (execOp ρ ⟨d, .index s x y, ty, pos, after, gd⟩).run P w = .ok (.value v) w := by
  unfold execOp
  simp only [hx, hy, Sem.run_bind, hr, Result.andThen_ok, Sem.run_pure]
theorem wpPureF {P : Program} {Q : Exit → Act → World → Prop} {K : Act → World → Prop} {a : Act} {w : World} {d : Option Tmp} {op : Op} {ty : TypeId} {pos : String} {after : Array Edge} {gd : Option (Nat × Bool)} {v : Value} (h : (execOp a.eval ⟨d, op, ty, pos, after, gd⟩).run P w = .ok (.value v) w) (hk : K (a.put d v) w) : Oper.wp P ⟨d, op, ty, pos, after, gd⟩ a w K Q := by
  unfold Oper.wp
  rw [h]
  exact hk
theorem wpPureW {P : Program} {Q : Exit → Act → World → Prop} {K : Act → World → Prop} {a : Act} {w w' : World} {d : Option Tmp} {op : Op} {ty : TypeId} {pos : String} {after : Array Edge} {gd : Option (Nat × Bool)} {v : Value} (h : (execOp a.eval ⟨d, op, ty, pos, after, gd⟩).run P w = .ok (.value v) w') (hk : K (a.put d v) w') : Oper.wp P ⟨d, op, ty, pos, after, gd⟩ a w K Q := by
  unfold Oper.wp
  rw [h]
  exact hk
theorem buildByte2 (X Y : UInt8) (w : World) : (Instr.buildSlice 43 2 #[(0, .int .u8 ((X.toNat : Nat) : Int)), (1, .int .u8 ((Y.toNat : Nat) : Int))]).run Tryd.prog w = .ok (.slice (some ⟨w.heap.size, 0, none⟩) 2 2) (w.alloc (.cells #[.int .u8 ((X.toNat : Nat) : Int), .int .u8 ((Y.toNat : Nat) : Int)] 5)) := by kernel_rfl
theorem exBuild2F {ρ : Operand → Value} {w : World} {d : Option Tmp} {ty : TypeId} {pos : String} {after : Array Edge} {gd : Option (Nat × Bool)} {x y : Operand} (X Y : UInt8) (hx : ρ x = .int .u8 ((X.toNat : Nat) : Int)) (hy : ρ y = .int .u8 ((Y.toNat : Nat) : Int)) : (execOp ρ ⟨d, .buildSlice 43 2 #[(0, x), (1, y)], ty, pos, after, gd⟩).run Tryd.prog w = .ok (.value (.slice (some ⟨w.heap.size, 0, none⟩) 2 2)) (w.alloc (.cells #[.int .u8 ((X.toNat : Nat) : Int), .int .u8 ((Y.toNat : Nat) : Int)] 5)) := by
  unfold execOp
  simp only [List.map_toArray, List.map_cons, List.map_nil, hx, hy, Sem.run_bind, buildByte2, Result.andThen_ok, Sem.run_pure]
theorem under32F : Tryd.prog.underlying 25 = some (.array 32 5) := by kernel_rfl
theorem sizeOfF8 (w : World) : (sizeOf 5).run Tryd.prog w = .ok 1 w := by kernel_rfl
theorem isAggF8 (w : World) : (isAgg 5).run Tryd.prog w = .ok false w := by kernel_rfl
theorem index_F (b : List UInt8) (hb : b.length = 32) (k : Nat) (c : UInt8) (hc : b[k]? = some c) (w : World) : (Instr.index 25 (.agg (bytesS b)) (.int .i64 ((k : Nat) : Int))).run Tryd.prog w = .ok (.int .u8 ((c.toNat : Nat) : Int)) w := by
  have hk : k < b.length := (List.getElem?_eq_some_iff.1 hc).1
  have hv : (bytesS b)[k]? = some (.int .u8 ((c.toNat : Nat) : Int)) := by
    unfold bytesS
    rw [List.getElem?_toArray]
    rw [encB_at, hc]; rfl
  have hi : (0 : Int) ≤ (k : Int) ∧ (k : Int) < (32 : Nat) := by omega
  simp only [Instr.index, asIntOf, Sem.run_bind, Sem.run_pure, Result.andThen_ok, run_underlying under32F]
  rw [if_pos hi]
  simp only [part, Sem.run_bind, sizeOfF8, isAggF8, Result.andThen_ok, Bool.false_eq_true, if_false, Int.toNat_natCast, Nat.mul_one, hv, Sem.run_pure]
theorem shr4F (c : UInt8) (w : World) : (binOp .shr 5 (.int .u8 ((c.toNat : Nat) : Int)) (.int .u64 4)).run Tryd.prog w = .ok (.int .u8 ((c.toNat / 16 : Nat) : Int)) w := by
  simp [go_sem]
theorem and15 {q : Nat} (h : q < 256) : bits .and .u8 (q : Int) 15 = ((q % 16 : Nat) : Int) := by
  have := u8_and_nat q 15 h (by omega)
  rw [show ((15 : Nat) : Int) = 15 from rfl] at this
  rw [this, show (15 : Nat) = 2 ^ 4 - 1 by rfl, Nat.and_two_pow_sub_one_eq_mod]
theorem and15F (c : UInt8) (w : World) : (binOp .and 5 (.int .u8 ((c.toNat : Nat) : Int)) (.int .u8 15)).run Tryd.prog w = .ok (.int .u8 ((c.toNat % 16 : Nat) : Int)) w := by
  have := c.toNat_lt
  rw [← and15 (q := c.toNat) (by omega)]
  simp [go_sem]
theorem mk64F (w : World) : (Instr.makeSlice 43 (.int .i64 0) (.int .i64 64)).run Tryd.prog w = .ok (.slice (some ⟨w.heap.size, 0, none⟩) 0 64) (w.alloc (.cells (Array.replicate 64 (.int .u8 0)) 5)) := by kernel_rfl
theorem two_sl (w : World) (x y : UInt8) : Sl (w.alloc (.cells #[.int .u8 ((x.toNat : Nat) : Int), .int .u8 ((y.toNat : Nat) : Int)] 5)) (w.alloc (.cells #[.int .u8 ((x.toNat : Nat) : Int), .int .u8 ((y.toNat : Nat) : Int)] 5)).heap.size 1 (some ⟨w.heap.size, 0, none⟩) 2 (encB [x, y]) :=
  sl_fresh w _ 5 1 2 (encB [x, y]) (by rw [encB_len]; rfl) rfl
set_option maxRecDepth 100000 in
set_option maxHeartbeats 8000000 in
theorem hex_any (b : List UInt8) (hb : b.length = 32) (w : World) : Calls Tryd.prog 13 #[.agg (bytesS b)] w (RetB w (.string (bytesOf (hexL b)))) := by
  have hmk := mk64F
  have HL := Lib.hid hb
  have K0 : Hid (Blk (w.alloc (.cells (bytesS b) 25)) w.heap.size 25 (bytesS b)) := Blk.new _ _ _
  have B0 : Hid (Below w.heap.size w (w.alloc (.cells (bytesS b) 25))) := below_new _ _
  clear hb
  go_enter Tryd.func13, Tryd.ntmps13
  go_upto_region 1 with fail
  generalize (w.alloc (.cells (bytesS b) 25)) = w1 at *
  have HB0 := Lib.hid B0.out
  obtain ⟨g1, hg1⟩ : ∃ g1, g1 = w.heap.size := ⟨_, rfl⟩
  rw [← hg1] at K0 ⊢
  clear hg1
  have O0 : Hid ((w1.alloc (.cells (Array.replicate 64 (.int .u8 0)) 5)).ownsRow w1.heap.size 5 1 (.slice (some ⟨w1.heap.size, 0, none⟩) 0 64) 0 (encB (hexL (b.take 0)))) :=
    ⟨rfl, .inr ⟨w1.heap.size, 64, _, rfl, Nat.le_refl _, heap_alloc_new w1 _, Nat.zero_le _, by simp [maxLen], by simp, rfl⟩⟩
  have B1 : Hid (Below w1.heap.size w1 (w1.alloc (.cells (Array.replicate 64 (.int .u8 0)) 5))) := below_new _ _
  go_wp2_with (refine wpList_load_row rfl 25 _ (by rfl) g1 (by rfl) _ _ _ _ (K0.out.ext B1.out) Tryd.underlying25 rfl (by rw [infoB32, bytesS_size, HL.out]) ?_)
  obtain ⟨w0, hw0⟩ : ∃ x, x = w1.alloc (.cells (Array.replicate 64 (.int .u8 0)) 5) := ⟨_, rfl⟩
  rw [← hw0] at O0 B1 ⊢
  clear hmk K0 hw0
  have HW1 : Hid (w1.heap.size ≤ w0.heap.size) := B1.out.size
  have B2 : Hid (Below w1.heap.size w1 w0) := B1
  go_loopw [3, 5, 8] (fun s c i wr => ∃ k : Nat, k ≤ 32 ∧ i = .int .i64 k ∧ Hid (wr.ownsRow w1.heap.size 5 1 s (2 * k) (encB (hexL (b.take k)))) ∧ Hid (Below w1.heap.size w1 wr)) (fun _ _ i _ => 32 - (intOf i).toNat)
  case atStart => exact ⟨0, by omega, rfl, O0.out, B2.out⟩
  case round =>
    clear O0 B1 B2 HW1
    obtain ⟨k, hk, rfl, O, B⟩ := hrel
    obtain ⟨A', c', hv, hcm, _⟩ := Sl.of_own O.out
    subst hv
    by_cases hlt : k < 32
    · have hlk : (k : Int) < 32 := by omega
      obtain ⟨c, hc⟩ : ∃ c, b[k]? = some c := ⟨_, List.getElem?_eq_getElem (by rw [HL.out]; exact hlt)⟩
      have HIX := Lib.hid (fun u : World => index_F b HL.out k c hc u)
      have HN := Lib.hid (hexL_next hc)
      have h16 := c.toNat_lt
      have hq1 : c.toNat / 16 < 16 := by omega
      have hq2 : c.toNat % 16 < 16 := by omega
      clear hc
      go_upto_region 4 with fail
      refine wp_region_lit ?_
      refine wpL_val rfl (exIdxF (v := .int .u8 ((c.toNat : Nat) : Int)) rfl rfl (HIX.out _)) ?_
      simp only [Act.put, List.setIfInBounds_toArray, List.set_cons_zero, List.set_cons_succ]
      refine wpL_val rfl (exAssign (v := .int .u8 ((c.toNat : Nat) : Int)) rfl) ?_
      simp only [Act.put, List.setIfInBounds_toArray, List.set_cons_zero, List.set_cons_succ]
      refine wpList_nil ?_
      go_upto_region 5 with fail
      try go_frame
      · skip
        refine wp_region_held (S := fun _ => True) mixedS ?_
        change wpAnyH _ _ _ _ _ _ _ _ wr.drew
        have OD : Hid (wr.drew.ownsRow w1.heap.size 5 1 (.slice A' (2 * k) c') (2 * k) (encB (hexL (b.take k)))) := O.out
        have BD : Hid (Below w1.heap.size w1 wr.drew) := B.out.drew
        generalize wr.drew = wd at *
        clear O B
        simp only [List.size_toArray, List.length_cons, List.length_nil]
        refine takeV (i := 0) (d := 11) (v := .slice A' (2 * k) c') rfl (by kernel_rfl) (by kernel_rfl) (by kernel_rfl) (fun _ _ _ h => h) rfl (fun w' _ => exMove (v := .slice A' (2 * k) c') rfl) trivial ?_
        simp only [Act.put, List.setIfInBounds_toArray, List.set_cons_zero, List.set_cons_succ]
        refine takeV (i := 1) (d := 12) (v := .int .u8 ((c.toNat : Nat) : Int)) rfl (by kernel_rfl) (by kernel_rfl) (by kernel_rfl) (fun _ _ _ h => h) rfl (fun w' _ => exMove (v := .int .u8 ((c.toNat : Nat) : Int)) rfl) trivial ?_
        simp only [Act.put, List.setIfInBounds_toArray, List.set_cons_zero, List.set_cons_succ]
        refine takeV (i := 2) (d := 13) (v := .int .u8 ((c.toNat / 16 : Nat) : Int)) rfl (by kernel_rfl) (by kernel_rfl) (by kernel_rfl) (fun _ _ _ h => h) rfl (fun w' _ => exBin (v := .int .u8 ((c.toNat / 16 : Nat) : Int)) rfl rfl (by rfl) (shr4F c w')) trivial ?_
        simp only [Act.put, List.setIfInBounds_toArray, List.set_cons_zero, List.set_cons_succ]
        refine takeV (i := 3) (d := 14) (v := .int .u8 (((hexD (c.toNat / 16)).toNat : Nat) : Int)) rfl (by kernel_rfl) (by kernel_rfl) (by kernel_rfl) (fun _ _ _ h => h) rfl (fun w' _ => exIdxF (v := .int .u8 (((hexD (c.toNat / 16)).toNat : Nat) : Int)) rfl rfl (digitF (c.toNat / 16) hq1 w')) trivial ?_
        simp only [Act.put, List.setIfInBounds_toArray, List.set_cons_zero, List.set_cons_succ]
        refine takeV (i := 4) (d := 15) (v := .int .u8 ((c.toNat : Nat) : Int)) rfl (by kernel_rfl) (by kernel_rfl) (by kernel_rfl) (fun _ _ _ h => h) rfl (fun w' _ => exMove (v := .int .u8 ((c.toNat : Nat) : Int)) rfl) trivial ?_
        simp only [Act.put, List.setIfInBounds_toArray, List.set_cons_zero, List.set_cons_succ]
        refine takeV (i := 5) (d := 16) (v := .int .u8 ((c.toNat % 16 : Nat) : Int)) rfl (by kernel_rfl) (by kernel_rfl) (by kernel_rfl) (fun _ _ _ h => h) rfl (fun w' _ => exBin (v := .int .u8 ((c.toNat % 16 : Nat) : Int)) rfl rfl (by rfl) (and15F c w')) trivial ?_
        simp only [Act.put, List.setIfInBounds_toArray, List.set_cons_zero, List.set_cons_succ]
        refine takeV (i := 6) (d := 17) (v := .int .u8 (((hexD (c.toNat % 16)).toNat : Nat) : Int)) rfl (by kernel_rfl) (by kernel_rfl) (by kernel_rfl) (fun _ _ _ h => h) rfl (fun w' _ => exIdxF (v := .int .u8 (((hexD (c.toNat % 16)).toNat : Nat) : Int)) rfl rfl (digitF (c.toNat % 16) hq2 w')) trivial ?_
        simp only [Act.put, List.setIfInBounds_toArray, List.set_cons_zero, List.set_cons_succ]
        have SLT := Lib.hid (two_sl wd (hexD (c.toNat / 16)) (hexD (c.toNat % 16)))
        have BW : Hid (Below wd.heap.size wd (wd.alloc (.cells #[.int .u8 (((hexD (c.toNat / 16)).toNat : Nat) : Int), .int .u8 (((hexD (c.toNat % 16)).toNat : Nat) : Int)] 5))) := below_new _ _
        have OW := Lib.hid (own_ext OD.out BW.out)
        have BW2 := Lib.hid (BD.out.trans (BW.out.mono BD.out.size))
        have hb1 : Hid (w1.heap.size ≤ (wd.alloc (.cells #[.int .u8 (((hexD (c.toNat / 16)).toNat : Nat) : Int), .int .u8 (((hexD (c.toNat % 16)).toNat : Nat) : Int)] 5)).heap.size) := BW2.out.size
        refine wpAnyH_all (rs := [7]) (by kernel_rfl) (by simp) ?_
        intro i hi
        simp only [List.mem_cons, List.not_mem_nil, or_false] at hi
        subst hi
        refine wpOp_of rfl rfl (wpPureW (v := .slice (some ⟨wd.heap.size, 0, none⟩) 2 2) (w' := wd.alloc (.cells #[.int .u8 (((hexD (c.toNat / 16)).toNat : Nat) : Int), .int .u8 (((hexD (c.toNat % 16)).toNat : Nat) : Int)] 5)) (exBuild2F (hexD (c.toNat / 16)) (hexD (c.toNat % 16)) rfl rfl) ?_)
        refine ⟨trivial, ?_⟩
        simp only [Act.put, List.setIfInBounds_toArray, List.set_cons_zero, List.set_cons_succ]
        refine wpAnyH_all (rs := [8]) (by kernel_rfl) (by simp) ?_
        intro i hi
        simp only [List.mem_cons, List.not_mem_nil, or_false] at hi
        subst hi
        refine wpOp_of rfl rfl (wp_cat byteSl OW.out SLT.out (encB_one _) hb1.out (by omega) (by unfold maxLen; omega) (by rfl) (by rfl) ?_)
        intro v9 w9 own9 bel9
        refine ⟨trivial, ?_⟩
        simp only [Act.put, List.setIfInBounds_toArray, List.set_cons_zero, List.set_cons_succ]
        have O9 : Hid (w9.ownsRow w1.heap.size 5 1 v9 (2 * (k + 1)) (encB (hexL (b.take (k + 1))))) := by
          rw [HN.out, encB_appS]
          exact own9
        have B9 := Lib.hid (BW2.out.trans bel9)
        clear own9 bel9
        refine wpAnyH_all (rs := [9]) (by kernel_rfl) (by simp) ?_
        intro i hi
        simp only [List.mem_cons, List.not_mem_nil, or_false] at hi
        subst hi
        refine wpOp_of rfl rfl (wpPureF (v := v9) (exAssign (v := v9) rfl) ?_)
        refine ⟨trivial, ?_⟩
        simp only [Act.put, List.setIfInBounds_toArray, List.set_cons_zero, List.set_cons_succ]
        refine wpAnyH_done (by kernel_rfl) ?_ _
        go_wp2_with fail
        go_roundw
        case rel => exact ⟨k + 1, by omega, by go_num, O9.out, B9.out⟩
        case measure => simp [intOf]; omega
    · have hnl : ¬ (k : Int) < 32 := by omega
      obtain rfl : k = 32 := by omega
      rw [List.take_of_length_le (by rw [HL.out]; exact Nat.le_refl _)] at O
      obtain ⟨A5, c5, hv5, hc5, sl5⟩ := Sl.of_own O.out
      obtain ⟨rfl, rfl⟩ : A' = A5 ∧ c' = c5 := by injection hv5 with a _ b; exact ⟨a, b⟩
      clear hv5
      have CV := Lib.hid (strB_run (c := c') sl5 (by rw [hexL_len, HL.out]))
      go_upto_region 7 with fail
      refine wp_region_lit ?_
      refine wpL_val rfl (exMove (v := .slice A' 64 c') rfl) ?_
      simp only [Act.put, List.setIfInBounds_toArray, List.set_cons_zero, List.set_cons_succ]
      refine wpL_val rfl (exConv_sh (v := .string (bytesOf (hexL b))) rfl CV.out) ?_
      simp only [Act.put, List.setIfInBounds_toArray, List.set_cons_zero, List.set_cons_succ]
      refine wpL_val rfl (exAssign (v := .string (bytesOf (hexL b))) rfl) ?_
      simp only [Act.put, List.setIfInBounds_toArray, List.set_cons_zero, List.set_cons_succ]
      refine wpList_nil ?_
      go_wp2_with fail
      go_ret
      exact ⟨rfl, HB0.out.trans (B.out.mono HB0.out.size)⟩
end Go.Proofs.YtihggkmjalofiaaDoor
