/- A region that is walked in its own order, one operation at a time, with no simplification of numbers. -/
import Derived.Test.YtihggkmjalofiaaGreatDoorBufs
import Derived.Test.YtihggkmjalofiaaGreatDoorIdxw
import Derived.Test.YtihggkmjalofiaaGreatDoorStaj
import Derived.Test.YtihggkmjalofiaaGreatDoorGen
import Derived.Laws.BitsAllLaws
import Derived.IntWalk
import Derived.Test.YtihggkmjalofiaaGreatDoorSets
import Derived.Test.YtihggkmjalofiaaGreatDoorPidw
import Derived.Laws.Shifts
import Derived.Deep.DeepCutAuto
namespace Go.Proofs.YtihggkmjalofiaaGreatDoor
open Go.RowKit

theorem wpL_w {P : Program} {ops : Array Oper} {rest : List Oper} {o : Oper} {a : Act} {w w' : World} {Q : Exit → Act → World → Prop} {v : Value} (hg : o.guard = none) (hx : (execOp a.eval o).run P w = .ok (.value v) w')
  (h : wpList P ops Q rest (a.put o.dst v) w') : wpList P ops Q (o :: rest) a w :=
 wpList_plain hg fun _ hK => by
  unfold Oper.wp
  rw [hx]
  exact hK _ _ h
theorem wpL_val {P : Program} {ops : Array Oper} {rest : List Oper} {o : Oper} {a : Act} {w : World} {Q : Exit → Act → World → Prop} {v : Value} (hg : o.guard = none) (hx : (execOp a.eval o).run P w = .ok (.value v) w)
 (h : wpList P ops Q rest (a.put o.dst v) w) : wpList P ops Q (o :: rest) a w := wpL_w hg hx h
theorem buildByte1 (X : UInt8) (w : World) : (Instr.buildSlice 46 1 #[(0, .int .u8 ((X.toNat : Nat) : Int))]).run Tryz.prog w = .ok (.slice (some ⟨w.heap.size, 0, none⟩) 1 1) (w.alloc (.cells #[.int .u8 ((X.toNat : Nat) : Int)] 5)) := by kernel_rfl
theorem wpList_bs1 {ops : Array Oper} {rest : List Oper} {a : Act} {w : World} {Q : Exit → Act → World → Prop} {d : Option Tmp} {ty : TypeId} {pos : String} {after : Array Edge} {x : Operand} (X : UInt8) (hx : a.eval x = .int .u8 ((X.toNat : Nat) : Int))
  (h : wpList Tryz.prog ops Q rest (a.put d (.slice (some ⟨w.heap.size, 0, none⟩) 1 1)) (w.alloc (.cells #[.int .u8 ((X.toNat : Nat) : Int)] 5))) : wpList Tryz.prog ops Q (⟨d, .buildSlice 46 1 #[(0, x)], ty, pos, after, none⟩ :: rest) a w := by
 refine wpL_w (v := .slice (some ⟨w.heap.size, 0, none⟩) 1 1) (w' := w.alloc (.cells #[.int .u8 ((X.toNat : Nat) : Int)] 5)) rfl ?_ h
 unfold execOp
 simp only [List.map_toArray, List.map_cons, List.map_nil, hx, Sem.run_bind, buildByte1, Result.andThen_ok, Sem.run_pure]
end Go.Proofs.YtihggkmjalofiaaGreatDoor

/- The document's rows as text: walked. -/
namespace Go.Proofs.YtihggkmjalofiaaGreatDoor
open Go.RowKit

section
variable {P : Program} {ρ : Operand → Value} {d : Option Tmp} {ty s t : TypeId} {x : Operand} {pos : String} {after : Array Edge} {gd : Option (Nat × Bool)} {v xv : Value} {w : World}
theorem exConvX (hx : ρ x = xv) (hr : (convert s t xv).run P w = .ok v w) : (execOp ρ ⟨d, .convert s t x, ty, pos, after, gd⟩).run P w = .ok (.value v) w := by
 unfold execOp; simp only [hx, Sem.run_bind, hr, Result.andThen_ok, Sem.run_pure]
end
theorem catX (a b : List UInt8) (h : a.length + b.length ≤ 1000000) (w : World) : (binOp .add 9 (.string ⟨a.toArray⟩) (.string ⟨b.toArray⟩)).run Tryz.prog w = .ok (.string ⟨(a ++ b).toArray⟩) w := by
 have h1 : a.length + b.length ≤ 9223372036854775807 := by omega
 have e : (⟨a.toArray⟩ : ByteArray) ++ ⟨b.toArray⟩ = ⟨(a ++ b).toArray⟩ := by
  apply ByteArray.ext
  simp [ByteArray.data_append]
 simp [go_sem, h1, e]
def dig54 (y : Nat) : UInt8 := UInt8.ofNat (48 + y % 10)
def pre54 (y : Nat) : List UInt8 := if y < 10 then [] else Lib.decDigits (y / 10)
theorem dec_pre (y : Nat) : Lib.decDigits y = pre54 y ++ [dig54 y] := by
 unfold pre54 dig54
 rw [Lib.decDigits]
 split
 ·rename_i h; rw [Nat.mod_eq_of_lt h]; rfl
 ·rfl
theorem dec_next {m y : Nat} {dl : List UInt8} (h : Lib.decDigits m = pre54 y ++ dl) (hy : ¬ y < 10) : Lib.decDigits m = pre54 (y / 10) ++ dig54 (y / 10) :: dl := by
 rw [h]
 unfold pre54
 rw [if_neg hy, dec_pre (y / 10)]
 simp [pre54]
theorem dec_len {m y : Nat} {dl : List UInt8} (h : Lib.decDigits m = pre54 y ++ dl) (hm : m < 18446744073709551616) : dl.length ≤ 20 := by
 have h1 : (Lib.decDigits m).length ≤ 20 := by rw [Lib.decDigits_length]; exact Lib.nDigits_le20 m hm
 rw [h, List.length_append] at h1
 omega
theorem digV (q : Nat) (w : World) : (convert 76 5 (.int .u64 ((q : Nat) : Int))).run Tryz.prog w = .ok (.int .u8 (((UInt8.ofNat q).toNat : Nat) : Int)) w := by
 have e : IntKind.u8.wrap ((q : Nat) : Int) = (((UInt8.ofNat q).toNat : Nat) : Int) := by
  rw [UInt8.toNat_ofNat']
  simp [IntKind.wrap, IntKind.signed, IntKind.bits]
 simp [go_sem, e]
theorem digU (y : Nat) (w : World) (_hy : y < 18446744073709551616) : (convert 76 5 (.int .u64 ((48 + y % 10 : Nat) : Int))).run Tryz.prog w = .ok (.int .u8 (((dig54 y).toNat : Nat) : Int)) w := by
 unfold dig54
 generalize 48 + y % 10 = q
 exact digV q w
theorem remU (y : Nat) (w : World) : (binOp .rem 76 (.int .u64 ((y : Nat) : Int)) (.int .u64 10)).run Tryz.prog w = .ok (.int .u64 ((y % 10 : Nat) : Int)) w := by
 have e : (((y : Nat) : Int)).tmod 10 = ((y % 10 : Nat) : Int) := by
  rw [Int.tmod_eq_emod_of_nonneg (by omega)]; omega
 simp [go_sem, e]
theorem quoU (y : Nat) (w : World) (hy : y < 18446744073709551616) : (binOp .quo 76 (.int .u64 ((y : Nat) : Int)) (.int .u64 10)).run Tryz.prog w = .ok (.int .u64 ((y / 10 : Nat) : Int)) w := by
 have e : (((y : Nat) : Int)).tdiv 10 = ((y / 10 : Nat) : Int) := by
  rw [Int.tdiv_eq_ediv_of_nonneg (by omega)]; omega
 have e2 : IntKind.u64.wrap ((y : Int) / 10) = (y : Int) / 10 := by
  simp [IntKind.wrap, IntKind.signed, IntKind.bits]
  omega
 simp [go_sem, e, e2]
theorem addU48 (y : Nat) (w : World) (hy : y < 10) : (binOp .add 76 (.int .u64 48) (.int .u64 ((y : Nat) : Int))).run Tryz.prog w = .ok (.int .u64 ((48 + y : Nat) : Int)) w := by
 have e2 : IntKind.u64.wrap (48 + ((y : Nat) : Int)) = ((48 + y : Nat) : Int) := by
  simp [IntKind.wrap, IntKind.signed, IntKind.bits]
  omega
 simp [go_sem, e2]
theorem blk_byte54 (w : World) (x : UInt8) : Sl (w.alloc (.cells #[.int .u8 ((x.toNat : Nat) : Int)] 5)) (w.heap.size + 1) 1 (some ⟨w.heap.size, 0, none⟩) 1 (encB [x]) :=
 ⟨rfl, fun _ => ⟨w.heap.size, 0, rfl, Nat.lt_succ_self _, fun j hj => by
  have hj0 : j = 0 := by omega
  subst hj0
  have K : Blk (w.alloc (.cells #[.int .u8 ((x.toNat : Nat) : Int)] 5)) w.heap.size 5 #[.int .u8 ((x.toNat : Nat) : Int)] := Blk.new _ _ _
  exact K.cell 0⟩⟩
theorem strByte54 (w : World) (x : UInt8) (c : Nat) : (convert 46 9 (.slice (some ⟨w.heap.size, 0, none⟩) 1 c)).run Tryz.prog (w.alloc (.cells #[.int .u8 ((x.toNat : Nat) : Int)] 5)) = .ok (.string ⟨[x].toArray⟩) (w.alloc (.cells #[.int .u8 ((x.toNat : Nat) : Int)] 5)) := strB_run (blk_byte54 w x) rfl
/-- the digits of a number that is not below zero -/
def magZ (z : Int) : Nat := z.natAbs
def sgnZ (z : Int) : List UInt8 := if z < 0 then [45] else []
theorem itoa_parts (z : Int) : Lib.itoa z = sgnZ z ++ Lib.decDigits (magZ z) := by
 unfold Lib.itoa sgnZ magZ
 by_cases h : z < 0
 ·rw [if_pos h, if_pos h]; rfl
 ·rw [if_neg h, if_neg h, List.nil_append]
  congr 1
  omega
set_option maxRecDepth 100000 in
set_option maxHeartbeats 4000000 in
theorem rnumX_any (z : Int) (hz : inI64 z) (w : World) : Calls Tryz.prog 142 #[.int .i64 z] w (RetB w (.string ⟨(Lib.itoa z).toArray⟩)) := by
 have HI := Lib.hid (itoa_parts z)
 have hm : magZ z < 18446744073709551616 := by unfold magZ; have := hz.1; have := hz.2; omega
 rw [HI.out]
 clear HI
 obtain ⟨lo, hi⟩ := hz
 obtain ⟨m, hmz⟩ : ∃ m, m = magZ z := ⟨_, rfl⟩
 rw [← hmz] at hm ⊢
 obtain ⟨sg, hsg⟩ : ∃ s, s = sgnZ z := ⟨_, rfl⟩
 have hsl : Hid (sg.length ≤ 1) := by rw [Hid, hsg]; unfold sgnZ; split <;> simp
 rw [← hsg]
 go_enter Tryz.func142, Tryz.ntmps142
 go_upto_if 9 with fail
 go_cut [3, 4] (fun sv xv wx => sv = .string ⟨sg.toArray⟩ ∧ xv = .int .u64 ((m : Nat) : Int) ∧ wx = w)
 case first =>
  by_cases hneg : z < 0
  ·have hs : sg = [45] := by rw [hsg]; unfold sgnZ; rw [if_pos hneg]
   have hmm : ((m : Nat) : Int) = -z := by rw [hmz]; unfold magZ; omega
   subst hs
   have q1 : IntKind.i64.wrap (z + 1) = z + 1 := by rw [IntKind.wrap_i64] <;> omega
   have q2 : IntKind.i64.wrap (-(z + 1)) = -(z + 1) := by rw [IntKind.wrap_i64] <;> omega
   have q3 : IntKind.u64.wrap (-(z + 1)) = -(z + 1) := by
    simp [IntKind.wrap, IntKind.signed, IntKind.bits]
    omega
   have q4 : IntKind.u64.wrap (-(z + 1) + 1) = ((m : Nat) : Int) := by
    rw [hmm]
    simp [IntKind.wrap, IntKind.signed, IntKind.bits]
    omega
   clear hmm hsg hmz
   go_wp2_with fail
   go_meet
   exact ⟨rfl, rfl, rfl⟩
  ·have hs : sg = [] := by rw [hsg]; unfold sgnZ; rw [if_neg hneg]
   have hmm : z = ((m : Nat) : Int) := by rw [hmz]; unfold magZ; omega
   clear hmz hsg
   subst hs
   subst hmm
   have hnz : ¬ ((m : Nat) : Int) < 0 := by omega
   go_wp2_with fail
   go_meet
   refine ⟨rfl, ?_, rfl⟩
   simp [IntKind.wrap, IntKind.signed, IntKind.bits]
   try omega
 case rest =>
  obtain ⟨rfl, rfl, rfl⟩ := hcut
  clear hsg hmz lo hi
  have D0 := Lib.hid (dec_pre m)
  go_upto_region 6 with fail
  refine wp_region_lit ?_
  refine wpL_val rfl (exMove (v := .int .u64 ((m : Nat) : Int)) rfl) ?_
  simp only [Act.put, List.setIfInBounds_toArray, List.set_cons_zero, List.set_cons_succ]
  refine wpL_val rfl (exBin (v := .int .u64 ((m % 10 : Nat) : Int)) rfl rfl (by rfl) (remU m _)) ?_
  simp only [Act.put, List.setIfInBounds_toArray, List.set_cons_zero, List.set_cons_succ]
  refine wpL_val rfl (exBin (v := .int .u64 ((48 + m % 10 : Nat) : Int)) rfl rfl (by rfl) (addU48 (m % 10) _ (by omega))) ?_
  simp only [Act.put, List.setIfInBounds_toArray, List.set_cons_zero, List.set_cons_succ]
  refine wpL_val rfl (exConvX (v := .int .u8 (((dig54 m).toNat : Nat) : Int)) rfl (digU m _ hm)) ?_
  simp only [Act.put, List.setIfInBounds_toArray, List.set_cons_zero, List.set_cons_succ]
  refine wpList_bs1 (dig54 m) rfl ?_
  simp only [Act.put, List.setIfInBounds_toArray, List.set_cons_zero, List.set_cons_succ]
  refine wpL_val rfl (exConvX (v := .string ⟨[dig54 m].toArray⟩) rfl (strByte54 wc (dig54 m) 1)) ?_
  simp only [Act.put, List.setIfInBounds_toArray, List.set_cons_zero, List.set_cons_succ]
  refine wpL_val rfl (exAssign (v := .string ⟨[dig54 m].toArray⟩) rfl) ?_
  simp only [Act.put, List.setIfInBounds_toArray, List.set_cons_zero, List.set_cons_succ]
  refine wpList_nil ?_
  have B0 : Hid (Below wc.heap.size wc (wc.alloc (.cells #[.int .u8 (((dig54 m).toNat : Nat) : Int)] 5))) := below_new _ _
  generalize (wc.alloc (.cells #[.int .u8 (((dig54 m).toNat : Nat) : Int)] 5)) = w1 at *
  go_wp2_with fail
  go_loopw [4, 5] (fun xv dv wr => ∃ (y : Nat) (dl : List UInt8), xv = .int .u64 ((y : Nat) : Int) ∧ dv = .string ⟨dl.toArray⟩ ∧ y ≤ m ∧ Hid (Lib.decDigits m = pre54 y ++ dl) ∧ Hid (Below wc.heap.size wc wr)) (fun xv _ _ => (intOf xv).toNat)
  case atStart => exact ⟨m, [dig54 m], rfl, rfl, Nat.le_refl _, D0.out, B0.out⟩
  case round =>
   clear D0 B0
   obtain ⟨y, dl, rfl, rfl, hy, D, B⟩ := hrel
   have hdl := Lib.hid (dec_len D.out hm)
   by_cases h10 : 10 ≤ y
   ·have D2 := Lib.hid (dec_next D.out (by omega))
    obtain ⟨y2, hy2⟩ : ∃ q, q = y / 10 := ⟨_, rfl⟩
    have hyy : y2 < y := by omega
    have QU : Hid (∀ u : World, (binOp .quo 76 (.int .u64 ((y : Nat) : Int)) (.int .u64 10)).run Tryz.prog u = .ok (.int .u64 ((y2 : Nat) : Int)) u) := fun u => by rw [hy2]; exact quoU y u (by omega)
    rw [← hy2] at D2
    clear hy2 D
    have hz10 : (10 : Int) ≤ (y : Int) := by omega
    go_upto_region 8 with fail
    refine wp_region_lit ?_
    refine wpL_val rfl (exMove (v := .int .u64 ((y : Nat) : Int)) rfl) ?_
    simp only [Act.put, List.setIfInBounds_toArray, List.set_cons_zero, List.set_cons_succ]
    refine wpL_val rfl (exBin (v := .int .u64 ((y2 : Nat) : Int)) rfl rfl (by rfl) (QU.out _)) ?_
    simp only [Act.put, List.setIfInBounds_toArray, List.set_cons_zero, List.set_cons_succ]
    refine wpL_val rfl (exAssign (v := .int .u64 ((y2 : Nat) : Int)) rfl) ?_
    simp only [Act.put, List.setIfInBounds_toArray, List.set_cons_zero, List.set_cons_succ]
    refine wpList_nil ?_
    go_upto_region 9 with fail
    refine wp_region_lit ?_
    refine wpL_val rfl (exMove (v := .int .u64 ((y2 : Nat) : Int)) rfl) ?_
    simp only [Act.put, List.setIfInBounds_toArray, List.set_cons_zero, List.set_cons_succ]
    refine wpL_val rfl (exBin (v := .int .u64 ((y2 % 10 : Nat) : Int)) rfl rfl (by rfl) (remU y2 _)) ?_
    simp only [Act.put, List.setIfInBounds_toArray, List.set_cons_zero, List.set_cons_succ]
    refine wpL_val rfl (exBin (v := .int .u64 ((48 + y2 % 10 : Nat) : Int)) rfl rfl (by rfl) (addU48 (y2 % 10) _ (by omega))) ?_
    simp only [Act.put, List.setIfInBounds_toArray, List.set_cons_zero, List.set_cons_succ]
    refine wpL_val rfl (exConvX (v := .int .u8 (((dig54 y2).toNat : Nat) : Int)) rfl (digU y2 _ (by omega))) ?_
    simp only [Act.put, List.setIfInBounds_toArray, List.set_cons_zero, List.set_cons_succ]
    refine wpList_bs1 (dig54 y2) rfl ?_
    simp only [Act.put, List.setIfInBounds_toArray, List.set_cons_zero, List.set_cons_succ]
    refine wpL_val rfl (exConvX (v := .string ⟨[dig54 y2].toArray⟩) rfl (strByte54 wr (dig54 y2) 1)) ?_
    simp only [Act.put, List.setIfInBounds_toArray, List.set_cons_zero, List.set_cons_succ]
    refine wpL_val rfl (exMove (v := .string ⟨dl.toArray⟩) rfl) ?_
    simp only [Act.put, List.setIfInBounds_toArray, List.set_cons_zero, List.set_cons_succ]
    refine wpL_val rfl (exBin (v := .string ⟨([dig54 y2] ++ dl).toArray⟩) rfl rfl (by rfl) (catX [dig54 y2] dl (by have := hdl.out; rw [List.length_cons, List.length_nil]; omega) _)) ?_
    simp only [Act.put, List.setIfInBounds_toArray, List.set_cons_zero, List.set_cons_succ]
    refine wpL_val rfl (exAssign (v := .string ⟨([dig54 y2] ++ dl).toArray⟩) rfl) ?_
    simp only [Act.put, List.setIfInBounds_toArray, List.set_cons_zero, List.set_cons_succ]
    refine wpList_nil ?_
    have B2 : Hid (Below wc.heap.size wc (wr.alloc (.cells #[.int .u8 (((dig54 y2).toNat : Nat) : Int)] 5))) := B.out.trans ((below_new _ _).mono B.out.size)
    generalize (wr.alloc (.cells #[.int .u8 (((dig54 y2).toNat : Nat) : Int)] 5)) = w2 at *
    go_wp2_with fail
    go_roundw
    case rel => exact ⟨y2, dig54 y2 :: dl, rfl, rfl, by omega, D2.out, B2.out⟩
    case measure => simp [intOf]; omega
   ·have D2 : Hid (Lib.decDigits m = dl) := by
     have h1 := D.out
     unfold pre54 at h1
     rw [if_pos (by omega), List.nil_append] at h1
     exact h1
    have hz10 : ¬ (10 : Int) ≤ (y : Int) := by omega
    go_upto_region 10 with fail
    refine wp_region_lit ?_
    refine wpL_val rfl (exMove (v := .string ⟨sg.toArray⟩) rfl) ?_
    simp only [Act.put, List.setIfInBounds_toArray, List.set_cons_zero, List.set_cons_succ]
    refine wpL_val rfl (exMove (v := .string ⟨dl.toArray⟩) rfl) ?_
    simp only [Act.put, List.setIfInBounds_toArray, List.set_cons_zero, List.set_cons_succ]
    refine wpL_val rfl (exBin (v := .string ⟨(sg ++ dl).toArray⟩) rfl rfl (by rfl) (catX sg dl (by have := hdl.out; have := hsl.out; omega) _)) ?_
    simp only [Act.put, List.setIfInBounds_toArray, List.set_cons_zero, List.set_cons_succ]
    refine wpL_val rfl (exAssign (v := .string ⟨(sg ++ dl).toArray⟩) rfl) ?_
    simp only [Act.put, List.setIfInBounds_toArray, List.set_cons_zero, List.set_cons_succ]
    refine wpList_nil ?_
    go_wp2_with fail
    go_ret
    refine ⟨?_, B.out⟩
    rw [D2.out]
    rfl
theorem fieldRX0 (b j : Nat) (hj : j < 9) (w : World) : (Instr.fieldAt 109 (.pointer (some ⟨b, 0, none⟩)) j).run Tryz.prog w = .ok (.pointer (some ⟨b, j, none⟩)) w := by
 have h := fieldRX b 0 j hj w
 rwa [Nat.zero_add] at h
theorem loadU54 (b o : Nat) (w : World) (z : Int) (h : w.cell? ⟨b, o, none⟩ = some (.int .u8 z)) : (Instr.loadAt 5 (.pointer (some ⟨b, o, none⟩))).run Tryz.prog w = .ok (.int .u8 z) w := by simp [go_sem, h]
theorem convU54 (z : Int) (w : World) (h : 0 ≤ z ∧ z < 256) : (convert 5 3 (.int .u8 z)).run Tryz.prog w = .ok (.int .i64 z) w := by
 have e : IntKind.i64.wrap z = z := by rw [IntKind.wrap_i64] <;> omega
 simp [go_sem, e]
set_option maxRecDepth 100000 in
set_option maxHeartbeats 8000000 in
theorem rprint_any (R : List RowR) (hR : ∀ r ∈ R, anyR r) (w : World) (A : Option Addr) (c n : Nat) (hn : R.length = n) (hm : n ≤ 1000) (h : Sl w w.heap.size 9 A n (R.flatMap encR)) :
  Calls Tryz.prog 58 #[.slice A n c] w (RetB w (.string ⟨(textX R).toArray⟩)) := by
 have H := Lib.hid h
 have HR := Lib.hid hR
 have HN := Lib.hid hn
 have hcN : ∀ args w, (callFunc 142 args).run Tryz.prog w = .ok (.enter 142 args) w := enters_of Tryz.func142 (by kernel_rfl) rfl
 clear h hR hn
 go_enter Tryz.func58, Tryz.ntmps58
 go_wp2_with fail
 go_loopw [3, 4] (fun sv iv wr => ∃ k : Nat, k ≤ n ∧ iv = .int .i64 ((k : Nat) : Int) ∧ sv = .string ⟨(textX (R.take k)).toArray⟩ ∧ Hid (Below w.heap.size w wr)) (fun _ iv _ => n - (intOf iv).toNat)
 case atStart => exact ⟨0, Nat.zero_le _, rfl, rfl, Below.refl _ _⟩
 case round =>
  obtain ⟨k, hk, rfl, rfl, B⟩ := hrel
  by_cases hlt : k < n
  ·have hlk : (k : Int) < (n : Int) := by omega
   obtain ⟨b, o, x, rfl, hb, hx, hr⟩ := row_at54 H.out HN.out hlt
   have RX := Lib.hid (rangeAt_below hr B.out hb)
   have SM := Lib.hid (HR.out x (List.mem_of_getElem? hx))
   have LT : Hid ((textX (R.take k)).length ≤ 201000) := by
    have h1 := textX_len (R := R.take k) fun r hr => HR.out r (List.mem_of_mem_take hr)
    rw [List.length_take] at h1
    rw [Hid]; omega
   have TX : Hid (textX (R.take (k + 1)) = textX (R.take k) ++ rowX x) := by
    rw [Hid, List.take_add_one, hx]
    unfold textX
    rw [Option.toList_some, List.flatMap_append]
    simp
   obtain ⟨acc, hacc⟩ : ∃ a, a = textX (R.take k) := ⟨_, rfl⟩
   rw [← hacc] at LT TX ⊢
   clear hacc hx hb hr
   have KZ : Hid (Blk (wr.alloc (.cells (encR zeroR).toArray 109)) wr.heap.size 109 (encR zeroR).toArray) := Blk.new _ _ _
   have KR : Hid (Blk ((wr.alloc (.cells (encR zeroR).toArray 109)).setRow wr.heap.size (encR x).toArray) wr.heap.size 109 (encR x).toArray) := KZ.out.row _
   have BN : Hid (Below wr.heap.size wr ((wr.alloc (.cells (encR zeroR).toArray 109)).setRow wr.heap.size (encR x).toArray)) := below_setRow (below_new wr _) (Nat.le_refl _) _
   go_upto_region 6 with (first
    | (refine wpList_load_mid rfl 109 _ (by rfl) b (o + k * 9) (by rfl) _ _ RX.out underRR rfl infoRR ?_)
    | (refine wpList_alloced (allocRR _) ?_)
    | (refine wpList_store_row rfl 109 _ _ (by rfl) wr.heap.size (encR x).toArray (by rfl) (by rfl) _ _ KZ.out infoRR rfl (all_oneCell_toArray (encR_one x)) ?_))
   have B1 := Lib.hid (B.out.trans (BN.out.mono B.out.size))
   generalize ((wr.alloc (.cells (encR zeroR).toArray 109)).setRow wr.heap.size (encR x).toArray) = w1 at *
   generalize wr.heap.size = gr at *
   clear KZ BN RX B
   obtain ⟨z0, hz0⟩ : ∃ z, z = x.1 := ⟨_, rfl⟩
   have i0 : Hid (inI64 z0) := by rw [Hid, hz0]; exact ⟨by have := SM.out.1; omega, by have := SM.out.1; omega⟩
   obtain ⟨t0, ht0⟩ : ∃ t, t = Lib.itoa z0 := ⟨_, rfl⟩
   have l0 : Hid (t0.length ≤ 21) := by rw [Hid, ht0]; exact itoaX i0.out
   have N0 : Hid (∀ u : World, Calls Tryz.prog 142 #[.int .i64 z0] u (RetB u (.string ⟨t0.toArray⟩))) := fun u => by rw [ht0]; exact rnumX_any z0 i0.out u
   obtain ⟨z1, hz1⟩ : ∃ z, z = x.2.1 := ⟨_, rfl⟩
   have i1 : Hid (inI64 z1) := by rw [Hid, hz1]; exact SM.out.2 _ (by simp [numsR])
   obtain ⟨t1, ht1⟩ : ∃ t, t = Lib.itoa z1 := ⟨_, rfl⟩
   have l1 : Hid (t1.length ≤ 21) := by rw [Hid, ht1]; exact itoaX i1.out
   have N1 : Hid (∀ u : World, Calls Tryz.prog 142 #[.int .i64 z1] u (RetB u (.string ⟨t1.toArray⟩))) := fun u => by rw [ht1]; exact rnumX_any z1 i1.out u
   obtain ⟨z2, hz2⟩ : ∃ z, z = x.2.2.1 := ⟨_, rfl⟩
   have i2 : Hid (inI64 z2) := by rw [Hid, hz2]; exact SM.out.2 _ (by simp [numsR])
   obtain ⟨t2, ht2⟩ : ∃ t, t = Lib.itoa z2 := ⟨_, rfl⟩
   have l2 : Hid (t2.length ≤ 21) := by rw [Hid, ht2]; exact itoaX i2.out
   have N2 : Hid (∀ u : World, Calls Tryz.prog 142 #[.int .i64 z2] u (RetB u (.string ⟨t2.toArray⟩))) := fun u => by rw [ht2]; exact rnumX_any z2 i2.out u
   obtain ⟨z3, hz3⟩ : ∃ z, z = x.2.2.2.1 := ⟨_, rfl⟩
   have i3 : Hid (inI64 z3) := by rw [Hid, hz3]; exact SM.out.2 _ (by simp [numsR])
   obtain ⟨t3, ht3⟩ : ∃ t, t = Lib.itoa z3 := ⟨_, rfl⟩
   have l3 : Hid (t3.length ≤ 21) := by rw [Hid, ht3]; exact itoaX i3.out
   have N3 : Hid (∀ u : World, Calls Tryz.prog 142 #[.int .i64 z3] u (RetB u (.string ⟨t3.toArray⟩))) := fun u => by rw [ht3]; exact rnumX_any z3 i3.out u
   obtain ⟨z4, hz4⟩ : ∃ z, z = x.2.2.2.2.1 := ⟨_, rfl⟩
   have i4 : Hid (inI64 z4) := by rw [Hid, hz4]; exact SM.out.2 _ (by simp [numsR])
   obtain ⟨t4, ht4⟩ : ∃ t, t = Lib.itoa z4 := ⟨_, rfl⟩
   have l4 : Hid (t4.length ≤ 21) := by rw [Hid, ht4]; exact itoaX i4.out
   have N4 : Hid (∀ u : World, Calls Tryz.prog 142 #[.int .i64 z4] u (RetB u (.string ⟨t4.toArray⟩))) := fun u => by rw [ht4]; exact rnumX_any z4 i4.out u
   obtain ⟨z5, hz5⟩ : ∃ z, z = x.2.2.2.2.2.1 := ⟨_, rfl⟩
   have i5 : Hid (inI64 z5) := by rw [Hid, hz5]; exact SM.out.2 _ (by simp [numsR])
   obtain ⟨t5, ht5⟩ : ∃ t, t = Lib.itoa z5 := ⟨_, rfl⟩
   have l5 : Hid (t5.length ≤ 21) := by rw [Hid, ht5]; exact itoaX i5.out
   have N5 : Hid (∀ u : World, Calls Tryz.prog 142 #[.int .i64 z5] u (RetB u (.string ⟨t5.toArray⟩))) := fun u => by rw [ht5]; exact rnumX_any z5 i5.out u
   obtain ⟨z6, hz6⟩ : ∃ z, z = x.2.2.2.2.2.2.1 := ⟨_, rfl⟩
   have i6 : Hid (inI64 z6) := by rw [Hid, hz6]; exact SM.out.2 _ (by simp [numsR])
   obtain ⟨t6, ht6⟩ : ∃ t, t = Lib.itoa z6 := ⟨_, rfl⟩
   have l6 : Hid (t6.length ≤ 21) := by rw [Hid, ht6]; exact itoaX i6.out
   have N6 : Hid (∀ u : World, Calls Tryz.prog 142 #[.int .i64 z6] u (RetB u (.string ⟨t6.toArray⟩))) := fun u => by rw [ht6]; exact rnumX_any z6 i6.out u
   obtain ⟨z7, hz7⟩ : ∃ z, z = x.2.2.2.2.2.2.2.1 := ⟨_, rfl⟩
   have i7 : Hid (inI64 z7) := by rw [Hid, hz7]; exact SM.out.2 _ (by simp [numsR])
   obtain ⟨t7, ht7⟩ : ∃ t, t = Lib.itoa z7 := ⟨_, rfl⟩
   have l7 : Hid (t7.length ≤ 21) := by rw [Hid, ht7]; exact itoaX i7.out
   have N7 : Hid (∀ u : World, Calls Tryz.prog 142 #[.int .i64 z7] u (RetB u (.string ⟨t7.toArray⟩))) := fun u => by rw [ht7]; exact rnumX_any z7 i7.out u
   obtain ⟨z8, hz8⟩ : ∃ z, z = x.2.2.2.2.2.2.2.2 := ⟨_, rfl⟩
   have i8 : Hid (inI64 z8) := by rw [Hid, hz8]; exact SM.out.2 _ (by simp [numsR])
   obtain ⟨t8, ht8⟩ : ∃ t, t = Lib.itoa z8 := ⟨_, rfl⟩
   have l8 : Hid (t8.length ≤ 21) := by rw [Hid, ht8]; exact itoaX i8.out
   have N8 : Hid (∀ u : World, Calls Tryz.prog 142 #[.int .i64 z8] u (RetB u (.string ⟨t8.toArray⟩))) := fun u => by rw [ht8]; exact rnumX_any z8 i8.out u
   have HZ : Hid (x = (z0, z1, z2, z3, z4, z5, z6, z7, z8)) := by rw [Hid, hz0, hz1, hz2, hz3, hz4, hz5, hz6, hz7, hz8]
   have b0 : 0 ≤ z0 ∧ z0 < 256 := by rw [hz0]; exact SM.out.1
   have RW : Hid (acc ++ t0 ++ [32] ++ t1 ++ [32] ++ t2 ++ [32] ++ t3 ++ [32] ++ t4 ++ [32] ++ t5 ++ [32] ++ t6 ++ [32] ++ t7 ++ [32] ++ t8 ++ [10] = acc ++ rowX x) := by
    rw [Hid, HZ.out, ht0, ht1, ht2, ht3, ht4, ht5, ht6, ht7, ht8]
    simp [rowX, headX, numsR, bitX]
   clear hz0 hz1 hz2 hz3 hz4 hz5 hz6 hz7 hz8 ht0 ht1 ht2 ht3 ht4 ht5 ht6 ht7 ht8 SM
   refine wp_region_Z (S := fun w' => Below w1.heap.size w1 w') (Z := []) mixed54h ?_
   have BD : Hid (Below w1.heap.size w1 w1.drew) := (Below.refl _ _).drew
   generalize w1.drew = wd at *
   simp only [List.size_toArray, List.length_cons, List.length_nil]
   refine zLight (i := 0) rfl (by kernel_rfl) (by kernel_rfl) (by kernel_rfl) (by kernel_rfl) (fun _ _ _ h => h) rfl (fun _ => exMove (v := .string ⟨(acc).toArray⟩) rfl) (fun _ => BD.out) ?_
   simp only [Act.put, List.setIfInBounds_toArray, List.set_cons_zero, List.set_cons_succ]
   refine zLight (i := 1) rfl (by kernel_rfl) (by kernel_rfl) (by kernel_rfl) (by kernel_rfl) (fun _ _ _ h => h) rfl (fun w' => exField (v := .pointer (some ⟨gr, 0, none⟩)) rfl (fieldRX0 gr 0 (by omega) w')) (fun _ => BD.out) ?_
   simp only [Act.put, List.setIfInBounds_toArray, List.set_cons_zero, List.set_cons_succ]
   refine zV (i := 2) rfl (by kernel_rfl) (by kernel_rfl) (by kernel_rfl) (by kernel_rfl) (by kernel_rfl) (fun _ _ _ h => h) rfl (fun w' h => exLoad (v := .int .u8 z0) rfl (loadU54 gr 0 w' _ (((KR.out.ext h).cell 0).trans (by rw [HZ.out]; rfl)))) BD.out ?_
   simp only [Act.put, List.setIfInBounds_toArray, List.set_cons_zero, List.set_cons_succ]
   refine zLight (i := 3) rfl (by kernel_rfl) (by kernel_rfl) (by kernel_rfl) (by kernel_rfl) (fun _ _ _ h => h) rfl (fun w' => exConvX (v := .int .i64 z0) rfl (convU54 z0 w' b0)) (fun _ => BD.out) ?_
   simp only [Act.put, List.setIfInBounds_toArray, List.set_cons_zero, List.set_cons_succ]
   refine zLight (i := 7) rfl (by kernel_rfl) (by kernel_rfl) (by kernel_rfl) (by kernel_rfl) (fun _ _ _ h => h) rfl (fun w' => exField (v := .pointer (some ⟨gr, 1, none⟩)) rfl (fieldRX0 gr 1 (by omega) w')) (fun _ => BD.out) ?_
   simp only [Act.put, List.setIfInBounds_toArray, List.set_cons_zero, List.set_cons_succ]
   refine zV (i := 8) rfl (by kernel_rfl) (by kernel_rfl) (by kernel_rfl) (by kernel_rfl) (by kernel_rfl) (fun _ _ _ h => h) rfl (fun w' h => exLoad (v := .int .i64 z1) rfl (loadI54b gr 1 w' _ (((KR.out.ext h).cell 1).trans (by rw [HZ.out]; rfl)))) BD.out ?_
   simp only [Act.put, List.setIfInBounds_toArray, List.set_cons_zero, List.set_cons_succ]
   refine zLight (i := 12) rfl (by kernel_rfl) (by kernel_rfl) (by kernel_rfl) (by kernel_rfl) (fun _ _ _ h => h) rfl (fun w' => exField (v := .pointer (some ⟨gr, 2, none⟩)) rfl (fieldRX0 gr 2 (by omega) w')) (fun _ => BD.out) ?_
   simp only [Act.put, List.setIfInBounds_toArray, List.set_cons_zero, List.set_cons_succ]
   refine zV (i := 13) rfl (by kernel_rfl) (by kernel_rfl) (by kernel_rfl) (by kernel_rfl) (by kernel_rfl) (fun _ _ _ h => h) rfl (fun w' h => exLoad (v := .int .i64 z2) rfl (loadI54b gr 2 w' _ (((KR.out.ext h).cell 2).trans (by rw [HZ.out]; rfl)))) BD.out ?_
   simp only [Act.put, List.setIfInBounds_toArray, List.set_cons_zero, List.set_cons_succ]
   refine zLight (i := 17) rfl (by kernel_rfl) (by kernel_rfl) (by kernel_rfl) (by kernel_rfl) (fun _ _ _ h => h) rfl (fun w' => exField (v := .pointer (some ⟨gr, 3, none⟩)) rfl (fieldRX0 gr 3 (by omega) w')) (fun _ => BD.out) ?_
   simp only [Act.put, List.setIfInBounds_toArray, List.set_cons_zero, List.set_cons_succ]
   refine zV (i := 18) rfl (by kernel_rfl) (by kernel_rfl) (by kernel_rfl) (by kernel_rfl) (by kernel_rfl) (fun _ _ _ h => h) rfl (fun w' h => exLoad (v := .int .i64 z3) rfl (loadI54b gr 3 w' _ (((KR.out.ext h).cell 3).trans (by rw [HZ.out]; rfl)))) BD.out ?_
   simp only [Act.put, List.setIfInBounds_toArray, List.set_cons_zero, List.set_cons_succ]
   refine zLight (i := 22) rfl (by kernel_rfl) (by kernel_rfl) (by kernel_rfl) (by kernel_rfl) (fun _ _ _ h => h) rfl (fun w' => exField (v := .pointer (some ⟨gr, 4, none⟩)) rfl (fieldRX0 gr 4 (by omega) w')) (fun _ => BD.out) ?_
   simp only [Act.put, List.setIfInBounds_toArray, List.set_cons_zero, List.set_cons_succ]
   refine zV (i := 23) rfl (by kernel_rfl) (by kernel_rfl) (by kernel_rfl) (by kernel_rfl) (by kernel_rfl) (fun _ _ _ h => h) rfl (fun w' h => exLoad (v := .int .i64 z4) rfl (loadI54b gr 4 w' _ (((KR.out.ext h).cell 4).trans (by rw [HZ.out]; rfl)))) BD.out ?_
   simp only [Act.put, List.setIfInBounds_toArray, List.set_cons_zero, List.set_cons_succ]
   refine zLight (i := 27) rfl (by kernel_rfl) (by kernel_rfl) (by kernel_rfl) (by kernel_rfl) (fun _ _ _ h => h) rfl (fun w' => exField (v := .pointer (some ⟨gr, 5, none⟩)) rfl (fieldRX0 gr 5 (by omega) w')) (fun _ => BD.out) ?_
   simp only [Act.put, List.setIfInBounds_toArray, List.set_cons_zero, List.set_cons_succ]
   refine zV (i := 28) rfl (by kernel_rfl) (by kernel_rfl) (by kernel_rfl) (by kernel_rfl) (by kernel_rfl) (fun _ _ _ h => h) rfl (fun w' h => exLoad (v := .int .i64 z5) rfl (loadI54b gr 5 w' _ (((KR.out.ext h).cell 5).trans (by rw [HZ.out]; rfl)))) BD.out ?_
   simp only [Act.put, List.setIfInBounds_toArray, List.set_cons_zero, List.set_cons_succ]
   refine zLight (i := 32) rfl (by kernel_rfl) (by kernel_rfl) (by kernel_rfl) (by kernel_rfl) (fun _ _ _ h => h) rfl (fun w' => exField (v := .pointer (some ⟨gr, 6, none⟩)) rfl (fieldRX0 gr 6 (by omega) w')) (fun _ => BD.out) ?_
   simp only [Act.put, List.setIfInBounds_toArray, List.set_cons_zero, List.set_cons_succ]
   refine zV (i := 33) rfl (by kernel_rfl) (by kernel_rfl) (by kernel_rfl) (by kernel_rfl) (by kernel_rfl) (fun _ _ _ h => h) rfl (fun w' h => exLoad (v := .int .i64 z6) rfl (loadI54b gr 6 w' _ (((KR.out.ext h).cell 6).trans (by rw [HZ.out]; rfl)))) BD.out ?_
   simp only [Act.put, List.setIfInBounds_toArray, List.set_cons_zero, List.set_cons_succ]
   refine zLight (i := 37) rfl (by kernel_rfl) (by kernel_rfl) (by kernel_rfl) (by kernel_rfl) (fun _ _ _ h => h) rfl (fun w' => exField (v := .pointer (some ⟨gr, 7, none⟩)) rfl (fieldRX0 gr 7 (by omega) w')) (fun _ => BD.out) ?_
   simp only [Act.put, List.setIfInBounds_toArray, List.set_cons_zero, List.set_cons_succ]
   refine zV (i := 38) rfl (by kernel_rfl) (by kernel_rfl) (by kernel_rfl) (by kernel_rfl) (by kernel_rfl) (fun _ _ _ h => h) rfl (fun w' h => exLoad (v := .int .i64 z7) rfl (loadI54b gr 7 w' _ (((KR.out.ext h).cell 7).trans (by rw [HZ.out]; rfl)))) BD.out ?_
   simp only [Act.put, List.setIfInBounds_toArray, List.set_cons_zero, List.set_cons_succ]
   refine zLight (i := 42) rfl (by kernel_rfl) (by kernel_rfl) (by kernel_rfl) (by kernel_rfl) (fun _ _ _ h => h) rfl (fun w' => exField (v := .pointer (some ⟨gr, 8, none⟩)) rfl (fieldRX0 gr 8 (by omega) w')) (fun _ => BD.out) ?_
   simp only [Act.put, List.setIfInBounds_toArray, List.set_cons_zero, List.set_cons_succ]
   refine zV (i := 43) rfl (by kernel_rfl) (by kernel_rfl) (by kernel_rfl) (by kernel_rfl) (by kernel_rfl) (fun _ _ _ h => h) rfl (fun w' h => exLoad (v := .int .i64 z8) rfl (loadI54b gr 8 w' _ (((KR.out.ext h).cell 8).trans (by rw [HZ.out]; rfl)))) BD.out ?_
   simp only [Act.put, List.setIfInBounds_toArray, List.set_cons_zero, List.set_cons_succ]
   refine wpAnyZ_all (rs := [4]) (by kernel_rfl) (by simp) ?_
   intro i hi
   simp only [List.mem_cons, List.not_mem_nil, or_false] at hi
   subst hi
   refine wpOp_of rfl rfl (wp_called (args := #[.int .i64 z0]) hcN (by simp only [List.map_toArray, List.map_cons, List.map_nil]; rfl) (N0.out wd) ?_)
   rintro _ wn1 ⟨rfl, bb⟩
   have BN1 := Lib.hid (ext_trans BD.out bb)
   clear bb
   refine ⟨_, rfl, fun _ => BN1.out, ?_⟩
   simp only [Act.put, List.setIfInBounds_toArray, List.set_cons_zero, List.set_cons_succ]
   refine zLight (i := 5) rfl (by kernel_rfl) (by kernel_rfl) (by kernel_rfl) (by kernel_rfl) (fun _ _ _ h => h) rfl (fun w' => exBin (v := .string ⟨(acc ++ t0).toArray⟩) rfl rfl (by rfl) (catX (acc) (t0) (by have := LT.out; have := l0.out; have := l1.out; have := l2.out; have := l3.out; have := l4.out; have := l5.out; have := l6.out; have := l7.out; have := l8.out; (try simp only [List.length_append, List.length_cons, List.length_nil]); omega) w')) (fun _ => BN1.out) ?_
   simp only [Act.put, List.setIfInBounds_toArray, List.set_cons_zero, List.set_cons_succ]
   refine zLight (i := 6) rfl (by kernel_rfl) (by kernel_rfl) (by kernel_rfl) (by kernel_rfl) (fun _ _ _ h => h) rfl (fun w' => exBin (v := .string ⟨(acc ++ t0 ++ [32]).toArray⟩) rfl rfl (by rfl) (catX (acc ++ t0) ([32]) (by have := LT.out; have := l0.out; have := l1.out; have := l2.out; have := l3.out; have := l4.out; have := l5.out; have := l6.out; have := l7.out; have := l8.out; (try simp only [List.length_append, List.length_cons, List.length_nil]); omega) w')) (fun _ => BN1.out) ?_
   simp only [Act.put, List.setIfInBounds_toArray, List.set_cons_zero, List.set_cons_succ]
   refine wpAnyZ_all (rs := [9]) (by kernel_rfl) (by simp) ?_
   intro i hi
   simp only [List.mem_cons, List.not_mem_nil, or_false] at hi
   subst hi
   refine wpOp_of rfl rfl (wp_called (args := #[.int .i64 z1]) hcN (by simp only [List.map_toArray, List.map_cons, List.map_nil]; rfl) (N1.out wn1) ?_)
   rintro _ wn2 ⟨rfl, bb⟩
   have BN2 := Lib.hid (ext_trans BN1.out bb)
   clear bb
   refine ⟨_, rfl, fun _ => BN2.out, ?_⟩
   simp only [Act.put, List.setIfInBounds_toArray, List.set_cons_zero, List.set_cons_succ]
   refine zLight (i := 10) rfl (by kernel_rfl) (by kernel_rfl) (by kernel_rfl) (by kernel_rfl) (fun _ _ _ h => h) rfl (fun w' => exBin (v := .string ⟨(acc ++ t0 ++ [32] ++ t1).toArray⟩) rfl rfl (by rfl) (catX (acc ++ t0 ++ [32]) (t1) (by have := LT.out; have := l0.out; have := l1.out; have := l2.out; have := l3.out; have := l4.out; have := l5.out; have := l6.out; have := l7.out; have := l8.out; (try simp only [List.length_append, List.length_cons, List.length_nil]); omega) w')) (fun _ => BN2.out) ?_
   simp only [Act.put, List.setIfInBounds_toArray, List.set_cons_zero, List.set_cons_succ]
   refine zLight (i := 11) rfl (by kernel_rfl) (by kernel_rfl) (by kernel_rfl) (by kernel_rfl) (fun _ _ _ h => h) rfl (fun w' => exBin (v := .string ⟨(acc ++ t0 ++ [32] ++ t1 ++ [32]).toArray⟩) rfl rfl (by rfl) (catX (acc ++ t0 ++ [32] ++ t1) ([32]) (by have := LT.out; have := l0.out; have := l1.out; have := l2.out; have := l3.out; have := l4.out; have := l5.out; have := l6.out; have := l7.out; have := l8.out; (try simp only [List.length_append, List.length_cons, List.length_nil]); omega) w')) (fun _ => BN2.out) ?_
   simp only [Act.put, List.setIfInBounds_toArray, List.set_cons_zero, List.set_cons_succ]
   refine wpAnyZ_all (rs := [14]) (by kernel_rfl) (by simp) ?_
   intro i hi
   simp only [List.mem_cons, List.not_mem_nil, or_false] at hi
   subst hi
   refine wpOp_of rfl rfl (wp_called (args := #[.int .i64 z2]) hcN (by simp only [List.map_toArray, List.map_cons, List.map_nil]; rfl) (N2.out wn2) ?_)
   rintro _ wn3 ⟨rfl, bb⟩
   have BN3 := Lib.hid (ext_trans BN2.out bb)
   clear bb
   refine ⟨_, rfl, fun _ => BN3.out, ?_⟩
   simp only [Act.put, List.setIfInBounds_toArray, List.set_cons_zero, List.set_cons_succ]
   refine zLight (i := 15) rfl (by kernel_rfl) (by kernel_rfl) (by kernel_rfl) (by kernel_rfl) (fun _ _ _ h => h) rfl (fun w' => exBin (v := .string ⟨(acc ++ t0 ++ [32] ++ t1 ++ [32] ++ t2).toArray⟩) rfl rfl (by rfl) (catX (acc ++ t0 ++ [32] ++ t1 ++ [32]) (t2) (by have := LT.out; have := l0.out; have := l1.out; have := l2.out; have := l3.out; have := l4.out; have := l5.out; have := l6.out; have := l7.out; have := l8.out; (try simp only [List.length_append, List.length_cons, List.length_nil]); omega) w')) (fun _ => BN3.out) ?_
   simp only [Act.put, List.setIfInBounds_toArray, List.set_cons_zero, List.set_cons_succ]
   refine zLight (i := 16) rfl (by kernel_rfl) (by kernel_rfl) (by kernel_rfl) (by kernel_rfl) (fun _ _ _ h => h) rfl (fun w' => exBin (v := .string ⟨(acc ++ t0 ++ [32] ++ t1 ++ [32] ++ t2 ++ [32]).toArray⟩) rfl rfl (by rfl) (catX (acc ++ t0 ++ [32] ++ t1 ++ [32] ++ t2) ([32]) (by have := LT.out; have := l0.out; have := l1.out; have := l2.out; have := l3.out; have := l4.out; have := l5.out; have := l6.out; have := l7.out; have := l8.out; (try simp only [List.length_append, List.length_cons, List.length_nil]); omega) w')) (fun _ => BN3.out) ?_
   simp only [Act.put, List.setIfInBounds_toArray, List.set_cons_zero, List.set_cons_succ]
   refine wpAnyZ_all (rs := [19]) (by kernel_rfl) (by simp) ?_
   intro i hi
   simp only [List.mem_cons, List.not_mem_nil, or_false] at hi
   subst hi
   refine wpOp_of rfl rfl (wp_called (args := #[.int .i64 z3]) hcN (by simp only [List.map_toArray, List.map_cons, List.map_nil]; rfl) (N3.out wn3) ?_)
   rintro _ wn4 ⟨rfl, bb⟩
   have BN4 := Lib.hid (ext_trans BN3.out bb)
   clear bb
   refine ⟨_, rfl, fun _ => BN4.out, ?_⟩
   simp only [Act.put, List.setIfInBounds_toArray, List.set_cons_zero, List.set_cons_succ]
   refine zLight (i := 20) rfl (by kernel_rfl) (by kernel_rfl) (by kernel_rfl) (by kernel_rfl) (fun _ _ _ h => h) rfl (fun w' => exBin (v := .string ⟨(acc ++ t0 ++ [32] ++ t1 ++ [32] ++ t2 ++ [32] ++ t3).toArray⟩) rfl rfl (by rfl) (catX (acc ++ t0 ++ [32] ++ t1 ++ [32] ++ t2 ++ [32]) (t3) (by have := LT.out; have := l0.out; have := l1.out; have := l2.out; have := l3.out; have := l4.out; have := l5.out; have := l6.out; have := l7.out; have := l8.out; (try simp only [List.length_append, List.length_cons, List.length_nil]); omega) w')) (fun _ => BN4.out) ?_
   simp only [Act.put, List.setIfInBounds_toArray, List.set_cons_zero, List.set_cons_succ]
   refine zLight (i := 21) rfl (by kernel_rfl) (by kernel_rfl) (by kernel_rfl) (by kernel_rfl) (fun _ _ _ h => h) rfl (fun w' => exBin (v := .string ⟨(acc ++ t0 ++ [32] ++ t1 ++ [32] ++ t2 ++ [32] ++ t3 ++ [32]).toArray⟩) rfl rfl (by rfl) (catX (acc ++ t0 ++ [32] ++ t1 ++ [32] ++ t2 ++ [32] ++ t3) ([32]) (by have := LT.out; have := l0.out; have := l1.out; have := l2.out; have := l3.out; have := l4.out; have := l5.out; have := l6.out; have := l7.out; have := l8.out; (try simp only [List.length_append, List.length_cons, List.length_nil]); omega) w')) (fun _ => BN4.out) ?_
   simp only [Act.put, List.setIfInBounds_toArray, List.set_cons_zero, List.set_cons_succ]
   refine wpAnyZ_all (rs := [24]) (by kernel_rfl) (by simp) ?_
   intro i hi
   simp only [List.mem_cons, List.not_mem_nil, or_false] at hi
   subst hi
   refine wpOp_of rfl rfl (wp_called (args := #[.int .i64 z4]) hcN (by simp only [List.map_toArray, List.map_cons, List.map_nil]; rfl) (N4.out wn4) ?_)
   rintro _ wn5 ⟨rfl, bb⟩
   have BN5 := Lib.hid (ext_trans BN4.out bb)
   clear bb
   refine ⟨_, rfl, fun _ => BN5.out, ?_⟩
   simp only [Act.put, List.setIfInBounds_toArray, List.set_cons_zero, List.set_cons_succ]
   refine zLight (i := 25) rfl (by kernel_rfl) (by kernel_rfl) (by kernel_rfl) (by kernel_rfl) (fun _ _ _ h => h) rfl (fun w' => exBin (v := .string ⟨(acc ++ t0 ++ [32] ++ t1 ++ [32] ++ t2 ++ [32] ++ t3 ++ [32] ++ t4).toArray⟩) rfl rfl (by rfl) (catX (acc ++ t0 ++ [32] ++ t1 ++ [32] ++ t2 ++ [32] ++ t3 ++ [32]) (t4) (by have := LT.out; have := l0.out; have := l1.out; have := l2.out; have := l3.out; have := l4.out; have := l5.out; have := l6.out; have := l7.out; have := l8.out; (try simp only [List.length_append, List.length_cons, List.length_nil]); omega) w')) (fun _ => BN5.out) ?_
   simp only [Act.put, List.setIfInBounds_toArray, List.set_cons_zero, List.set_cons_succ]
   refine zLight (i := 26) rfl (by kernel_rfl) (by kernel_rfl) (by kernel_rfl) (by kernel_rfl) (fun _ _ _ h => h) rfl (fun w' => exBin (v := .string ⟨(acc ++ t0 ++ [32] ++ t1 ++ [32] ++ t2 ++ [32] ++ t3 ++ [32] ++ t4 ++ [32]).toArray⟩) rfl rfl (by rfl) (catX (acc ++ t0 ++ [32] ++ t1 ++ [32] ++ t2 ++ [32] ++ t3 ++ [32] ++ t4) ([32]) (by have := LT.out; have := l0.out; have := l1.out; have := l2.out; have := l3.out; have := l4.out; have := l5.out; have := l6.out; have := l7.out; have := l8.out; (try simp only [List.length_append, List.length_cons, List.length_nil]); omega) w')) (fun _ => BN5.out) ?_
   simp only [Act.put, List.setIfInBounds_toArray, List.set_cons_zero, List.set_cons_succ]
   refine wpAnyZ_all (rs := [29]) (by kernel_rfl) (by simp) ?_
   intro i hi
   simp only [List.mem_cons, List.not_mem_nil, or_false] at hi
   subst hi
   refine wpOp_of rfl rfl (wp_called (args := #[.int .i64 z5]) hcN (by simp only [List.map_toArray, List.map_cons, List.map_nil]; rfl) (N5.out wn5) ?_)
   rintro _ wn6 ⟨rfl, bb⟩
   have BN6 := Lib.hid (ext_trans BN5.out bb)
   clear bb
   refine ⟨_, rfl, fun _ => BN6.out, ?_⟩
   simp only [Act.put, List.setIfInBounds_toArray, List.set_cons_zero, List.set_cons_succ]
   refine zLight (i := 30) rfl (by kernel_rfl) (by kernel_rfl) (by kernel_rfl) (by kernel_rfl) (fun _ _ _ h => h) rfl (fun w' => exBin (v := .string ⟨(acc ++ t0 ++ [32] ++ t1 ++ [32] ++ t2 ++ [32] ++ t3 ++ [32] ++ t4 ++ [32] ++ t5).toArray⟩) rfl rfl (by rfl) (catX (acc ++ t0 ++ [32] ++ t1 ++ [32] ++ t2 ++ [32] ++ t3 ++ [32] ++ t4 ++ [32]) (t5) (by have := LT.out; have := l0.out; have := l1.out; have := l2.out; have := l3.out; have := l4.out; have := l5.out; have := l6.out; have := l7.out; have := l8.out; (try simp only [List.length_append, List.length_cons, List.length_nil]); omega) w')) (fun _ => BN6.out) ?_
   simp only [Act.put, List.setIfInBounds_toArray, List.set_cons_zero, List.set_cons_succ]
   refine zLight (i := 31) rfl (by kernel_rfl) (by kernel_rfl) (by kernel_rfl) (by kernel_rfl) (fun _ _ _ h => h) rfl (fun w' => exBin (v := .string ⟨(acc ++ t0 ++ [32] ++ t1 ++ [32] ++ t2 ++ [32] ++ t3 ++ [32] ++ t4 ++ [32] ++ t5 ++ [32]).toArray⟩) rfl rfl (by rfl) (catX (acc ++ t0 ++ [32] ++ t1 ++ [32] ++ t2 ++ [32] ++ t3 ++ [32] ++ t4 ++ [32] ++ t5) ([32]) (by have := LT.out; have := l0.out; have := l1.out; have := l2.out; have := l3.out; have := l4.out; have := l5.out; have := l6.out; have := l7.out; have := l8.out; (try simp only [List.length_append, List.length_cons, List.length_nil]); omega) w')) (fun _ => BN6.out) ?_
   simp only [Act.put, List.setIfInBounds_toArray, List.set_cons_zero, List.set_cons_succ]
   refine wpAnyZ_all (rs := [34]) (by kernel_rfl) (by simp) ?_
   intro i hi
   simp only [List.mem_cons, List.not_mem_nil, or_false] at hi
   subst hi
   refine wpOp_of rfl rfl (wp_called (args := #[.int .i64 z6]) hcN (by simp only [List.map_toArray, List.map_cons, List.map_nil]; rfl) (N6.out wn6) ?_)
   rintro _ wn7 ⟨rfl, bb⟩
   have BN7 := Lib.hid (ext_trans BN6.out bb)
   clear bb
   refine ⟨_, rfl, fun _ => BN7.out, ?_⟩
   simp only [Act.put, List.setIfInBounds_toArray, List.set_cons_zero, List.set_cons_succ]
   refine zLight (i := 35) rfl (by kernel_rfl) (by kernel_rfl) (by kernel_rfl) (by kernel_rfl) (fun _ _ _ h => h) rfl (fun w' => exBin (v := .string ⟨(acc ++ t0 ++ [32] ++ t1 ++ [32] ++ t2 ++ [32] ++ t3 ++ [32] ++ t4 ++ [32] ++ t5 ++ [32] ++ t6).toArray⟩) rfl rfl (by rfl) (catX (acc ++ t0 ++ [32] ++ t1 ++ [32] ++ t2 ++ [32] ++ t3 ++ [32] ++ t4 ++ [32] ++ t5 ++ [32]) (t6) (by have := LT.out; have := l0.out; have := l1.out; have := l2.out; have := l3.out; have := l4.out; have := l5.out; have := l6.out; have := l7.out; have := l8.out; (try simp only [List.length_append, List.length_cons, List.length_nil]); omega) w')) (fun _ => BN7.out) ?_
   simp only [Act.put, List.setIfInBounds_toArray, List.set_cons_zero, List.set_cons_succ]
   refine zLight (i := 36) rfl (by kernel_rfl) (by kernel_rfl) (by kernel_rfl) (by kernel_rfl) (fun _ _ _ h => h) rfl (fun w' => exBin (v := .string ⟨(acc ++ t0 ++ [32] ++ t1 ++ [32] ++ t2 ++ [32] ++ t3 ++ [32] ++ t4 ++ [32] ++ t5 ++ [32] ++ t6 ++ [32]).toArray⟩) rfl rfl (by rfl) (catX (acc ++ t0 ++ [32] ++ t1 ++ [32] ++ t2 ++ [32] ++ t3 ++ [32] ++ t4 ++ [32] ++ t5 ++ [32] ++ t6) ([32]) (by have := LT.out; have := l0.out; have := l1.out; have := l2.out; have := l3.out; have := l4.out; have := l5.out; have := l6.out; have := l7.out; have := l8.out; (try simp only [List.length_append, List.length_cons, List.length_nil]); omega) w')) (fun _ => BN7.out) ?_
   simp only [Act.put, List.setIfInBounds_toArray, List.set_cons_zero, List.set_cons_succ]
   refine wpAnyZ_all (rs := [39]) (by kernel_rfl) (by simp) ?_
   intro i hi
   simp only [List.mem_cons, List.not_mem_nil, or_false] at hi
   subst hi
   refine wpOp_of rfl rfl (wp_called (args := #[.int .i64 z7]) hcN (by simp only [List.map_toArray, List.map_cons, List.map_nil]; rfl) (N7.out wn7) ?_)
   rintro _ wn8 ⟨rfl, bb⟩
   have BN8 := Lib.hid (ext_trans BN7.out bb)
   clear bb
   refine ⟨_, rfl, fun _ => BN8.out, ?_⟩
   simp only [Act.put, List.setIfInBounds_toArray, List.set_cons_zero, List.set_cons_succ]
   refine zLight (i := 40) rfl (by kernel_rfl) (by kernel_rfl) (by kernel_rfl) (by kernel_rfl) (fun _ _ _ h => h) rfl (fun w' => exBin (v := .string ⟨(acc ++ t0 ++ [32] ++ t1 ++ [32] ++ t2 ++ [32] ++ t3 ++ [32] ++ t4 ++ [32] ++ t5 ++ [32] ++ t6 ++ [32] ++ t7).toArray⟩) rfl rfl (by rfl) (catX (acc ++ t0 ++ [32] ++ t1 ++ [32] ++ t2 ++ [32] ++ t3 ++ [32] ++ t4 ++ [32] ++ t5 ++ [32] ++ t6 ++ [32]) (t7) (by have := LT.out; have := l0.out; have := l1.out; have := l2.out; have := l3.out; have := l4.out; have := l5.out; have := l6.out; have := l7.out; have := l8.out; (try simp only [List.length_append, List.length_cons, List.length_nil]); omega) w')) (fun _ => BN8.out) ?_
   simp only [Act.put, List.setIfInBounds_toArray, List.set_cons_zero, List.set_cons_succ]
   refine zLight (i := 41) rfl (by kernel_rfl) (by kernel_rfl) (by kernel_rfl) (by kernel_rfl) (fun _ _ _ h => h) rfl (fun w' => exBin (v := .string ⟨(acc ++ t0 ++ [32] ++ t1 ++ [32] ++ t2 ++ [32] ++ t3 ++ [32] ++ t4 ++ [32] ++ t5 ++ [32] ++ t6 ++ [32] ++ t7 ++ [32]).toArray⟩) rfl rfl (by rfl) (catX (acc ++ t0 ++ [32] ++ t1 ++ [32] ++ t2 ++ [32] ++ t3 ++ [32] ++ t4 ++ [32] ++ t5 ++ [32] ++ t6 ++ [32] ++ t7) ([32]) (by have := LT.out; have := l0.out; have := l1.out; have := l2.out; have := l3.out; have := l4.out; have := l5.out; have := l6.out; have := l7.out; have := l8.out; (try simp only [List.length_append, List.length_cons, List.length_nil]); omega) w')) (fun _ => BN8.out) ?_
   simp only [Act.put, List.setIfInBounds_toArray, List.set_cons_zero, List.set_cons_succ]
   refine wpAnyZ_all (rs := [44]) (by kernel_rfl) (by simp) ?_
   intro i hi
   simp only [List.mem_cons, List.not_mem_nil, or_false] at hi
   subst hi
   refine wpOp_of rfl rfl (wp_called (args := #[.int .i64 z8]) hcN (by simp only [List.map_toArray, List.map_cons, List.map_nil]; rfl) (N8.out wn8) ?_)
   rintro _ wn9 ⟨rfl, bb⟩
   have BN9 := Lib.hid (ext_trans BN8.out bb)
   clear bb
   refine ⟨_, rfl, fun _ => BN9.out, ?_⟩
   simp only [Act.put, List.setIfInBounds_toArray, List.set_cons_zero, List.set_cons_succ]
   refine zLight (i := 45) rfl (by kernel_rfl) (by kernel_rfl) (by kernel_rfl) (by kernel_rfl) (fun _ _ _ h => h) rfl (fun w' => exBin (v := .string ⟨(acc ++ t0 ++ [32] ++ t1 ++ [32] ++ t2 ++ [32] ++ t3 ++ [32] ++ t4 ++ [32] ++ t5 ++ [32] ++ t6 ++ [32] ++ t7 ++ [32] ++ t8).toArray⟩) rfl rfl (by rfl) (catX (acc ++ t0 ++ [32] ++ t1 ++ [32] ++ t2 ++ [32] ++ t3 ++ [32] ++ t4 ++ [32] ++ t5 ++ [32] ++ t6 ++ [32] ++ t7 ++ [32]) (t8) (by have := LT.out; have := l0.out; have := l1.out; have := l2.out; have := l3.out; have := l4.out; have := l5.out; have := l6.out; have := l7.out; have := l8.out; (try simp only [List.length_append, List.length_cons, List.length_nil]); omega) w')) (fun _ => BN9.out) ?_
   simp only [Act.put, List.setIfInBounds_toArray, List.set_cons_zero, List.set_cons_succ]
   refine zLight (i := 46) rfl (by kernel_rfl) (by kernel_rfl) (by kernel_rfl) (by kernel_rfl) (fun _ _ _ h => h) rfl (fun w' => exBin (v := .string ⟨(acc ++ t0 ++ [32] ++ t1 ++ [32] ++ t2 ++ [32] ++ t3 ++ [32] ++ t4 ++ [32] ++ t5 ++ [32] ++ t6 ++ [32] ++ t7 ++ [32] ++ t8 ++ [10]).toArray⟩) rfl rfl (by rfl) (catX (acc ++ t0 ++ [32] ++ t1 ++ [32] ++ t2 ++ [32] ++ t3 ++ [32] ++ t4 ++ [32] ++ t5 ++ [32] ++ t6 ++ [32] ++ t7 ++ [32] ++ t8) ([10]) (by have := LT.out; have := l0.out; have := l1.out; have := l2.out; have := l3.out; have := l4.out; have := l5.out; have := l6.out; have := l7.out; have := l8.out; (try simp only [List.length_append, List.length_cons, List.length_nil]); omega) w')) (fun _ => BN9.out) ?_
   simp only [Act.put, List.setIfInBounds_toArray, List.set_cons_zero, List.set_cons_succ]
   refine zLight (i := 47) rfl (by kernel_rfl) (by kernel_rfl) (by kernel_rfl) (by kernel_rfl) (fun _ _ _ h => h) rfl (fun _ => exAssign (v := .string ⟨(acc ++ t0 ++ [32] ++ t1 ++ [32] ++ t2 ++ [32] ++ t3 ++ [32] ++ t4 ++ [32] ++ t5 ++ [32] ++ t6 ++ [32] ++ t7 ++ [32] ++ t8 ++ [10]).toArray⟩) rfl) (fun _ => BN9.out) ?_
   simp only [Act.put, List.setIfInBounds_toArray, List.set_cons_zero, List.set_cons_succ]
   refine wpAnyZ_done (by kernel_rfl) ?_ _
   rw [RW.out, ← TX.out]
   have B2 := Lib.hid (B1.out.trans (BN9.out.mono B1.out.size))
   clear B1 BN9 N0 N1 N2 N3 N4 N5 N6 N7 N8 KR
   go_wp2_with fail
   go_roundw
   case rel => exact ⟨k + 1, by omega, by go_num, rfl, B2.out⟩
   case measure => simp [intOf]; omega
  ·have hlk : ¬ (k : Int) < (n : Int) := by omega
   rw [List.take_of_length_le (by rw [HN.out]; omega)]
   go_wp2_with fail
   go_ret
   exact ⟨rfl, B.out⟩
end Go.Proofs.YtihggkmjalofiaaGreatDoor
