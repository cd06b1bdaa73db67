/- Rows together: walked. -/
import Derived.Test.YtihggkmjalofiaaGreatDoorCens
import Derived.Test.YtihggkmjalofiaaGreatDoorGen
import Derived.Test.YtihggkmjalofiaaGreatDoorIdxw
namespace Go.Proofs.YtihggkmjalofiaaGreatDoor
open Go.RowKit

def plusR (t r : RowR) : RowR := (t.1, IntKind.i64.wrap (t.2.1 + r.2.1), IntKind.i64.wrap (t.2.2.1 + r.2.2.1), IntKind.i64.wrap (t.2.2.2.1 + r.2.2.2.1), IntKind.i64.wrap (t.2.2.2.2.1 + r.2.2.2.2.1), IntKind.i64.wrap (t.2.2.2.2.2.1 + r.2.2.2.2.2.1), IntKind.i64.wrap (t.2.2.2.2.2.2.1 + r.2.2.2.2.2.2.1), IntKind.i64.wrap (t.2.2.2.2.2.2.2.1 + r.2.2.2.2.2.2.2.1), IntKind.i64.wrap (t.2.2.2.2.2.2.2.2 + r.2.2.2.2.2.2.2.2))
def totR (R : List RowR) : RowR := R.foldl plusR zeroR
def midP (t r : RowR) (i : Nat) : RowR := (t.1, IntKind.i64.wrap (t.2.1 + r.2.1), IntKind.i64.wrap (t.2.2.1 + r.2.2.1), (if 1 ≤ i then IntKind.i64.wrap (t.2.2.2.1 + r.2.2.2.1) else t.2.2.2.1), (if 2 ≤ i then IntKind.i64.wrap (t.2.2.2.2.1 + r.2.2.2.2.1) else t.2.2.2.2.1), (if 3 ≤ i then IntKind.i64.wrap (t.2.2.2.2.2.1 + r.2.2.2.2.2.1) else t.2.2.2.2.2.1), (if 4 ≤ i then IntKind.i64.wrap (t.2.2.2.2.2.2.1 + r.2.2.2.2.2.2.1) else t.2.2.2.2.2.2.1), (if 5 ≤ i then IntKind.i64.wrap (t.2.2.2.2.2.2.2.1 + r.2.2.2.2.2.2.2.1) else t.2.2.2.2.2.2.2.1), IntKind.i64.wrap (t.2.2.2.2.2.2.2.2 + r.2.2.2.2.2.2.2.2))
theorem midP_zero (t r : RowR) : midP t r 0 = (t.1, IntKind.i64.wrap (t.2.1 + r.2.1), IntKind.i64.wrap (t.2.2.1 + r.2.2.1), t.2.2.2.1, t.2.2.2.2.1, t.2.2.2.2.2.1, t.2.2.2.2.2.2.1, t.2.2.2.2.2.2.2.1, IntKind.i64.wrap (t.2.2.2.2.2.2.2.2 + r.2.2.2.2.2.2.2.2)) := rfl
theorem midP_end (t r : RowR) : midP t r 5 = plusR t r := rfl
theorem midP_step (t r : RowR) {i : Nat} (h : i < 5) : ∃ a b : Int, (encR (midP t r i))[3 + i]? = some (.int .i64 a) ∧ (encR r)[3 + i]? = some (.int .i64 b) ∧ encR (midP t r (i + 1)) = (encR (midP t r i)).set (3 + i) (.int .i64 (IntKind.i64.wrap (a + b))) := by
 match i, h with
 | 0, _ => exact ⟨_, _, rfl, rfl, rfl⟩
 | 1, _ => exact ⟨_, _, rfl, rfl, rfl⟩
 | 2, _ => exact ⟨_, _, rfl, rfl, rfl⟩
 | 3, _ => exact ⟨_, _, rfl, rfl, rfl⟩
 | 4, _ => exact ⟨_, _, rfl, rfl, rfl⟩
theorem tot_snoc {R : List RowR} {k : Nat} {x : RowR} (h : R[k]? = some x) : totR (R.take (k + 1)) = plusR (totR (R.take k)) x := by
 unfold totR
 rw [List.take_add_one, h, Option.toList_some, List.foldl_append]
 rfl
theorem wp_calledV54 {P : Program} {Q : Exit → Act → World → Prop} {K : Act → World → Prop} {a : Act} {w : World} {d : Option Tmp} {ty : TypeId} {pos : String} {after : Array Edge} {gd : Option (Nat × Bool)} {x y : Operand} {ts : Array TypeId} {f : FuncId} {yv : Value} {R : Ending → World → Prop}
  (hf : ∀ args w, (callFunc f args).run P w = .ok (.enter f args) w) (hx : a.eval x = .func (.func f) #[] #[]) (hy : a.eval y = yv) (hc : Calls P f #[yv] w R)
  (h : ∀ e w', R e w' → ∃ v, e = .returned v ∧ K (a.put d v) w') : Oper.wp P ⟨d, .call { callee := .value x, args := #[y], argTypes := ts }, ty, pos, after, gd⟩ a w K Q := by
 have e1 : execOp a.eval ⟨d, .call { callee := .value x, args := #[y], argTypes := ts }, ty, pos, after, gd⟩ = callFunc f #[yv] := by
  unfold execOp resolve
  simp [hx, hy, Deferred.ofValue, invoke]
 unfold Oper.wp
 rw [e1, hf]
 refine hc.mono fun e w' hr => ?_
 obtain ⟨v, rfl, hk⟩ := h e w' hr
 exact hk
theorem fieldCnt1 (g : Nat) (w : World) : (Instr.fieldAt 222 (.pointer (some ⟨g, 0, none⟩)) 1).run Tryz.prog w = .ok (.pointer (some ⟨g, 1, none⟩)) w := by simp [go_sem]
theorem loadFun (b o : Nat) (w : World) (f : FuncId) (h : w.cell? ⟨b, o, none⟩ = some (.func (.func f) #[] #[])) : (Instr.loadAt 220 (.pointer (some ⟨b, o, none⟩))).run Tryz.prog w = .ok (.func (.func f) #[] #[]) w := by simp [go_sem, h]
theorem loadI54b (b o : Nat) (w : World) (z : Int) (h : w.cell? ⟨b, o, none⟩ = some (.int .i64 z)) : (Instr.loadAt 3 (.pointer (some ⟨b, o, none⟩))).run Tryz.prog w = .ok (.int .i64 z) w := by simp [go_sem, h]
theorem addW54 (a b : Int) (w : World) : (binOp .add 3 (.int .i64 a) (.int .i64 b)).run Tryz.prog w = .ok (.int .i64 (IntKind.i64.wrap (a + b))) w := by
 simp [go_sem, IntKind.wrap_i64]
theorem storeI54b (b o : Nat) (w : World) (z : Int) {u : Value} (h : w.cell? ⟨b, o, none⟩ = some u) (hf : w.frozen? ⟨b, o, none⟩ = false) : (Instr.storeAt 3 (.pointer (some ⟨b, o, none⟩)) (.int .i64 z)).run Tryz.prog w = .ok () (w.setCell ⟨b, o, none⟩ (.int .i64 z)) := by simp [go_sem, h, hf]
theorem row_set54 {w : World} {g : Nat} {t : TypeId} {r r' : RowR} {i : Nat} {v : Value} (h : Blk w g t (encR r).toArray) (he : encR r' = (encR r).set i v) : Blk (w.setCell ⟨g, i, none⟩ v) g t (encR r').toArray := by
 have h1 := h.set_ i v
 rw [he]
 simpa using h1
theorem results_row54 {P : Program} {fn : Func} {p : Tmp} {ty : TypeId} (h : fn.results = #[.cell p ty]) (tmps : Array Value) (w : World) (g : Nat) (t : TypeId) (cs : Array Value) (D : TypeDesc)
 (hp : tmps.getD p undef = .pointer (some ⟨g, 0, none⟩)) (hg : Blk w g t cs) (hu : P.underlying ty = some D) (hd : (match D with | .struct _ | .array _ _ => true | _ => false) = true) (hi : (P.info? ty).map (·.size) = some cs.size) :
 (results fn tmps).run P w = .ok (.agg cs) w := results_cell_row h tmps w g t cs (0, 0) D hp hg hu hd hi
theorem mixed54m : Tryz.prog.follows .mixedOrders = true := by kernel_rfl
set_option maxRecDepth 100000 in
set_option maxHeartbeats 8000000 in
theorem total54_any (R : List RowR) (w : World) (A : Option Addr) (c n : Nat) (hn : R.length = n) (hm : n ≤ 1000) (h : Sl w w.heap.size 9 A n (R.flatMap encR)) :
  Calls Tryz.prog 54 #[.slice A n c] w (RetB w (.agg (encR (totR R)).toArray)) := by
 have H := Lib.hid h
 have HN := Lib.hid hn
 clear h hn
 have K2a : Hid (Blk (w.alloc (.cells (encR zeroR).toArray 107)) w.heap.size 107 (encR zeroR).toArray) := Blk.new _ _ _
 have B0a : Hid (Below w.heap.size w (w.alloc (.cells (encR zeroR).toArray 107))) := below_new _ _
 go_enter Tryz.func54, Tryz.ntmps54
 go_upto_region 1 with (refine wpList_alloced (allocRow _) ?_)
 generalize (w.alloc (.cells (encR zeroR).toArray 107)) = wa at *
 obtain ⟨g2, hg2⟩ : ∃ g, g = w.heap.size := ⟨_, rfl⟩
 rw [← hg2] at K2a ⊢
 have K2 := Lib.hid (K2a.out.alloc (.cells (encR zeroR).toArray 107))
 have K3 : Hid (Blk (wa.alloc (.cells (encR zeroR).toArray 107)) wa.heap.size 107 (encR (totR (R.take 0))).toArray) := Blk.new _ _ _
 have B0 := Lib.hid (B0a.out.alloc B0a.out.size (.cells (encR zeroR).toArray 107))
 have hne : Hid (g2 ≠ wa.heap.size) := by have := K2a.out.lt; rw [Hid]; omega
 have hgw : Hid (w.heap.size ≤ wa.heap.size ∧ w.heap.size ≤ g2) := ⟨B0a.out.size, by omega⟩
 clear hg2 K2a B0a
 go_upto_region 2 with (refine wpList_alloced (allocRow _) ?_)
 generalize (wa.alloc (.cells (encR zeroR).toArray 107)) = w1 at *
 generalize wa.heap.size = gt at *
 go_wp2_with fail
 go_loopw [10] (fun iv wr => ∃ k : Nat, k ≤ n ∧ iv = .int .i64 ((k : Nat) : Int) ∧ Hid (Blk wr gt 107 (encR (totR (R.take k))).toArray) ∧ Hid (Blk wr g2 107 (encR zeroR).toArray) ∧ Hid (Below w.heap.size w wr)) (fun iv _ => n - (intOf iv).toNat)
 case atStart => exact ⟨0, Nat.zero_le _, rfl, K3.out, K2.out, B0.out⟩
 case round =>
  clear K3 K2 B0
  obtain ⟨k, hk, rfl, KT, K2, B⟩ := hrel
  have hk0 : (0 : Int) ≤ (k : Int) := by omega
  by_cases hlt : k < n
  ·have hlk : (k : Int) < (n : Int) := by omega
   obtain ⟨b, o, rfl, hb, hc⟩ := H.out.2 (by omega)
   obtain ⟨r, hx⟩ : ∃ x, R[k]? = some x := ⟨_, List.getElem?_eq_getElem (by rw [HN.out]; exact hlt)⟩
   have R0 : w.rangeAt b (o + k * 9) (encR r) := fun j v hj => by
    have hj9 := (List.getElem?_eq_some_iff.1 hj).1
    rw [encR_len] at hj9
    have hkl : k < R.length := by rw [HN.out]; exact hlt
    have h2 := hc (k * 9 + j) (by omega)
    rw [flatMap_get encR R (fun x _ => encR_len x) k j hkl hj9, (List.getElem?_eq_some_iff.1 hx).2] at h2
    rw [Nat.add_assoc, h2]
    exact hj
   have RX := Lib.hid (rangeAt_below R0 B.out hb)
   have TS := Lib.hid (tot_snoc hx)
   obtain ⟨t, ht⟩ : ∃ t, t = totR (R.take k) := ⟨_, rfl⟩
   rw [← ht] at TS KT
   clear hx hb hc R0 ht
   have KZ : Hid (Blk (wr.alloc (.cells (encR zeroR).toArray 107)) wr.heap.size 107 (encR zeroR).toArray) := Blk.new _ _ _
   have KO : Hid (Blk ((wr.alloc (.cells (encR zeroR).toArray 107)).setRow wr.heap.size (encR r).toArray) wr.heap.size 107 (encR r).toArray) := KZ.out.row _
   have BN : Hid (Below wr.heap.size wr ((wr.alloc (.cells (encR zeroR).toArray 107)).setRow wr.heap.size (encR r).toArray)) := below_setRow (below_new wr _) (Nat.le_refl _) _
   go_upto_region 5 with (first
    | (refine wpList_load_mid rfl 107 _ (by rfl) b (o + k * 9) (by rfl) _ _ RX.out underRow rfl infoRow ?_)
    | (refine wpList_alloced (allocRow _) ?_)
    | (refine wpList_store_row rfl 107 _ _ (by rfl) wr.heap.size (encR r).toArray (by rfl) (by rfl) _ _ KZ.out infoRow rfl (all_oneCell_toArray (encR_one r)) ?_))
   have hrt : Hid (wr.heap.size ≠ gt) := by have := KT.out.lt; rw [Hid]; omega
   replace KT := Lib.hid (KT.out.ext BN.out)
   replace K2 := Lib.hid (K2.out.ext BN.out)
   replace B := Lib.hid (B.out.trans (BN.out.mono B.out.size))
   generalize ((wr.alloc (.cells (encR zeroR).toArray 107)).setRow wr.heap.size (encR r).toArray) = wq at *
   generalize wr.heap.size = gr at *
   clear KZ BN RX
   obtain ⟨v1, hv1⟩ : ∃ v, IntKind.i64.wrap (t.2.1 + r.2.1) = v := ⟨_, rfl⟩
   have y1 : wq.cell? ⟨gt, 1, none⟩ = some (.int .i64 (t.2.1)) := KT.out.cell 1
   have y2 : wq.cell? ⟨gr, 1, none⟩ = some (.int .i64 (r.2.1)) := KO.out.cell 1
   have f1 : wq.frozen? ⟨gt, 1, none⟩ = false := KT.out.fr 1
   go_upto_region 6 with fail
   clear y1 y2 f1
   replace hv1 := Lib.hid hv1
   replace KT : Hid (Blk (wq.setCell ⟨gt, 1, none⟩ (.int .i64 v1)) gt 107 (encR (t.1, v1, t.2.2.1, t.2.2.2.1, t.2.2.2.2.1, t.2.2.2.2.2.1, t.2.2.2.2.2.2.1, t.2.2.2.2.2.2.2.1, t.2.2.2.2.2.2.2.2)).toArray) := row_set54 KT.out rfl
   replace KO := Lib.hid (KO.out.far (p := ⟨gt, 1, none⟩) hrt.out (.int .i64 v1))
   replace K2 := Lib.hid (K2.out.far (p := ⟨gt, 1, none⟩) hne.out (.int .i64 v1))
   replace B := Lib.hid (below_setCell B.out (p := ⟨gt, 1, none⟩) hgw.out.1 (u := .int .i64 v1))
   generalize (wq.setCell ⟨gt, 1, none⟩ (.int .i64 v1)) = wq at *
   obtain ⟨v2, hv2⟩ : ∃ v, IntKind.i64.wrap (t.2.2.1 + r.2.2.1) = v := ⟨_, rfl⟩
   have y1 : wq.cell? ⟨gt, 2, none⟩ = some (.int .i64 (t.2.2.1)) := KT.out.cell 2
   have y2 : wq.cell? ⟨gr, 2, none⟩ = some (.int .i64 (r.2.2.1)) := KO.out.cell 2
   have f1 : wq.frozen? ⟨gt, 2, none⟩ = false := KT.out.fr 2
   go_upto_region 7 with fail
   clear y1 y2 f1
   replace hv2 := Lib.hid hv2
   replace KT : Hid (Blk (wq.setCell ⟨gt, 2, none⟩ (.int .i64 v2)) gt 107 (encR (t.1, v1, v2, t.2.2.2.1, t.2.2.2.2.1, t.2.2.2.2.2.1, t.2.2.2.2.2.2.1, t.2.2.2.2.2.2.2.1, t.2.2.2.2.2.2.2.2)).toArray) := row_set54 KT.out rfl
   replace KO := Lib.hid (KO.out.far (p := ⟨gt, 2, none⟩) hrt.out (.int .i64 v2))
   replace K2 := Lib.hid (K2.out.far (p := ⟨gt, 2, none⟩) hne.out (.int .i64 v2))
   replace B := Lib.hid (below_setCell B.out (p := ⟨gt, 2, none⟩) hgw.out.1 (u := .int .i64 v2))
   generalize (wq.setCell ⟨gt, 2, none⟩ (.int .i64 v2)) = wq at *
   obtain ⟨v8, hv8⟩ : ∃ v, IntKind.i64.wrap (t.2.2.2.2.2.2.2.2 + r.2.2.2.2.2.2.2.2) = v := ⟨_, rfl⟩
   have y1 : wq.cell? ⟨gt, 8, none⟩ = some (.int .i64 (t.2.2.2.2.2.2.2.2)) := KT.out.cell 8
   have y2 : wq.cell? ⟨gr, 8, none⟩ = some (.int .i64 (r.2.2.2.2.2.2.2.2)) := KO.out.cell 8
   have f1 : wq.frozen? ⟨gt, 8, none⟩ = false := KT.out.fr 8
   go_upto_region 8 with fail
   clear y1 y2 f1
   replace hv8 := Lib.hid hv8
   replace KT : Hid (Blk (wq.setCell ⟨gt, 8, none⟩ (.int .i64 v8)) gt 107 (encR (t.1, v1, v2, t.2.2.2.1, t.2.2.2.2.1, t.2.2.2.2.2.1, t.2.2.2.2.2.2.1, t.2.2.2.2.2.2.2.1, v8)).toArray) := row_set54 KT.out rfl
   replace KO := Lib.hid (KO.out.far (p := ⟨gt, 8, none⟩) hrt.out (.int .i64 v8))
   replace K2 := Lib.hid (K2.out.far (p := ⟨gt, 8, none⟩) hne.out (.int .i64 v8))
   replace B := Lib.hid (below_setCell B.out (p := ⟨gt, 8, none⟩) hgw.out.1 (u := .int .i64 v8))
   generalize (wq.setCell ⟨gt, 8, none⟩ (.int .i64 v8)) = wq at *
   have e0 : (t.1, v1, v2, t.2.2.2.1, t.2.2.2.2.1, t.2.2.2.2.2.1, t.2.2.2.2.2.2.1, t.2.2.2.2.2.2.2.1, v8) = midP t r 0 := by rw [midP_zero, hv1.out, hv2.out, hv8.out]
   rw [e0] at KT
   clear e0 hv1 hv2 hv8
   go_wp2_with fail
   have HKT := Lib.hid KT.out.lt
   refine (counts_any wq).mono ?_
   rintro e _ ⟨rfl, rfl⟩
   have KC : Hid (Blk (wq.alloc (.cells cntC.toArray 222)) wq.heap.size 222 cntC.toArray) := Blk.new _ _ _
   have BC : Hid (Below wq.heap.size wq (wq.alloc (.cells cntC.toArray 222))) := below_new _ _
   replace KT := Lib.hid (KT.out.ext BC.out)
   replace K2 := Lib.hid (K2.out.ext BC.out)
   replace KO := Lib.hid (KO.out.ext BC.out)
   have hct : Hid (wq.heap.size ≠ gt) := by exact fun e => absurd HKT.out (by rw [← e]; exact Nat.lt_irrefl _)
   replace B := Lib.hid (B.out.trans (BC.out.mono B.out.size))
   generalize (wq.alloc (.cells cntC.toArray 222)) = w6 at *
   generalize wq.heap.size = gc at *
   clear BC
   go_wp2_with fail
   go_loopw [34] (fun iv ws => ∃ i : Nat, i ≤ 5 ∧ iv = .int .i64 ((i : Nat) : Int) ∧ Hid (Blk ws gt 107 (encR (midP t r i)).toArray) ∧ Hid (Blk ws gr 107 (encR r).toArray) ∧ Hid (Blk ws g2 107 (encR zeroR).toArray) ∧ Hid (Blk ws gc 222 cntC.toArray) ∧ Hid (Below w.heap.size w ws)) (fun iv _ => 5 - (intOf iv).toNat)
   case atStart => exact ⟨0, by omega, rfl, KT.out, KO.out, K2.out, KC.out, B.out⟩
   case round =>
    clear KT KO K2 KC B
    obtain ⟨i, hi, rfl, KT, KO, K2, KC, B⟩ := hrel
    have hi0 : (0 : Int) ≤ (i : Int) := by omega
    by_cases hit : i < 5
    ·have hik : (i : Int) < 5 := by omega
     obtain ⟨f, q1, q2, hen, hcall⟩ := cnt_one hit
     have RC : Hid (wr.rangeAt gc (i * 2) [.int .u8 ((i : Int) + 1), .func (.func f) #[] #[]]) := fun j v hj => by
      match j, hj with
      | 0, hj => rw [KC.out.cell, List.getElem?_toArray, Nat.add_zero, q1]; exact hj
      | 1, hj => rw [KC.out.cell, List.getElem?_toArray, q2]; exact hj
     obtain ⟨x, y, m1, m2, m3⟩ := midP_step t r hit
     clear q1 q2
     have KZ : Hid (Blk (wr.alloc (.cells #[.int .u8 0, .nilFunc] 222)) wr.heap.size 222 #[.int .u8 0, .nilFunc]) := Blk.new _ _ _
     have KN : Hid (Blk ((wr.alloc (.cells #[.int .u8 0, .nilFunc] 222)).setRow wr.heap.size #[.int .u8 ((i : Int) + 1), .func (.func f) #[] #[]]) wr.heap.size 222 #[.int .u8 ((i : Int) + 1), .func (.func f) #[] #[]]) := KZ.out.row _
     have BN : Hid (Below wr.heap.size wr ((wr.alloc (.cells #[.int .u8 0, .nilFunc] 222)).setRow wr.heap.size #[.int .u8 ((i : Int) + 1), .func (.func f) #[] #[]])) := below_setRow (below_new wr _) (Nat.le_refl _) _
     go_upto_region 11 with (first
      | (refine wpList_load_mid rfl 222 _ (by rfl) gc (i * 2) (by rfl) _ _ RC.out underCnt rfl infoCnt ?_)
      | (refine wpList_alloced (allocCnt _) ?_)
      | (refine wpList_store_row rfl 222 _ _ (by rfl) wr.heap.size #[.int .u8 ((i : Int) + 1), .func (.func f) #[] #[]] (by rfl) (by rfl) _ _ KZ.out infoCnt rfl (by simp [Value.oneCell']) ?_))
     replace KT := Lib.hid (KT.out.ext BN.out)
     replace KO := Lib.hid (KO.out.ext BN.out)
     replace K2 := Lib.hid (K2.out.ext BN.out)
     replace KC := Lib.hid (KC.out.ext BN.out)
     replace B := Lib.hid (B.out.trans (BN.out.mono B.out.size))
     generalize ((wr.alloc (.cells #[.int .u8 0, .nilFunc] 222)).setRow wr.heap.size #[.int .u8 ((i : Int) + 1), .func (.func f) #[] #[]]) = wq at *
     generalize wr.heap.size = gn at *
     clear BN KZ RC
     have c1 : Hid (∀ u : World, Calls Tryz.prog f #[.pointer (some ⟨gt, 0, none⟩)] u (Ret u (.pointer (some ⟨gt, 3 + i, none⟩)))) := fun u => by have h1 := hcall gt 0 u; rw [Nat.zero_add] at h1; exact h1
     have c2 : Hid (∀ u : World, Calls Tryz.prog f #[.pointer (some ⟨gr, 0, none⟩)] u (Ret u (.pointer (some ⟨gr, 3 + i, none⟩)))) := fun u => by have h1 := hcall gr 0 u; rw [Nat.zero_add] at h1; exact h1
     refine wp_region_Z (S := fun w' => Below wq.heap.size wq w') (Z := [12]) mixed54m ?_
     have B_0 : Hid (Below wq.heap.size wq wq.drew) := (Below.refl _ _).drew
     change wpAnyZ _ _ _ _ _ _ _ _ _ wq.drew
     generalize wq.drew = wd at *
     simp only [List.size_toArray, List.length_cons, List.length_nil]
     refine zV (i := 0) rfl (by kernel_rfl) (by kernel_rfl) (by kernel_rfl) (by kernel_rfl) (by kernel_rfl) (fun _ _ _ h => h) rfl (fun w' _ => exField rfl (fieldCnt1 gn w')) B_0.out ?_
     simp only [Act.put, List.setIfInBounds_toArray, List.set_cons_zero, List.set_cons_succ]
     refine zV (i := 1) rfl (by kernel_rfl) (by kernel_rfl) (by kernel_rfl) (by kernel_rfl) (by kernel_rfl) (fun _ _ _ h => h) rfl (fun w' h => exLoad rfl (loadFun gn 1 w' f ((KN.out.ext h).cell 1))) B_0.out ?_
     simp only [Act.put, List.setIfInBounds_toArray, List.set_cons_zero, List.set_cons_succ]
     refine zV (i := 5) rfl (by kernel_rfl) (by kernel_rfl) (by kernel_rfl) (by kernel_rfl) (by kernel_rfl) (fun _ _ _ h => h) rfl (fun w' _ => exField rfl (fieldCnt1 gn w')) B_0.out ?_
     simp only [Act.put, List.setIfInBounds_toArray, List.set_cons_zero, List.set_cons_succ]
     refine zV (i := 6) rfl (by kernel_rfl) (by kernel_rfl) (by kernel_rfl) (by kernel_rfl) (by kernel_rfl) (fun _ _ _ h => h) rfl (fun w' h => exLoad rfl (loadFun gn 1 w' f ((KN.out.ext h).cell 1))) B_0.out ?_
     simp only [Act.put, List.setIfInBounds_toArray, List.set_cons_zero, List.set_cons_succ]
     refine wpAnyZ_all (rs := [2]) (by kernel_rfl) (by simp) ?_
     intro i hi
     simp only [List.mem_cons, List.not_mem_nil, or_false] at hi
     subst hi
     refine wpOp_of rfl rfl (wp_calledV54 hen rfl rfl (c1.out wd) ?_)
     rintro _ _ ⟨rfl, rfl⟩
     refine ⟨_, rfl, fun _ => B_0.out, ?_⟩
     simp only [Act.put, List.setIfInBounds_toArray, List.set_cons_zero, List.set_cons_succ]
     refine zV (i := 3) rfl (by kernel_rfl) (by kernel_rfl) (by kernel_rfl) (by kernel_rfl) (by kernel_rfl) (fun _ _ _ h => h) rfl (fun _ _ => exNil rfl) B_0.out ?_
     simp only [Act.put, List.setIfInBounds_toArray, List.set_cons_zero, List.set_cons_succ]
     refine zV (i := 4) rfl (by kernel_rfl) (by kernel_rfl) (by kernel_rfl) (by kernel_rfl) (by kernel_rfl) (fun _ _ _ h => h) rfl (fun w' h => exLoad rfl (loadI54b gt (3 + i) w' x (((KT.out.ext h).cell (3 + i)).trans (by simpa using m1)))) B_0.out ?_
     simp only [Act.put, List.setIfInBounds_toArray, List.set_cons_zero, List.set_cons_succ]
     refine wpAnyZ_all (rs := [7]) (by kernel_rfl) (by simp) ?_
     intro i hi
     simp only [List.mem_cons, List.not_mem_nil, or_false] at hi
     subst hi
     refine wpOp_of rfl rfl (wp_calledV54 hen rfl rfl (c2.out wd) ?_)
     rintro _ _ ⟨rfl, rfl⟩
     refine ⟨_, rfl, fun _ => B_0.out, ?_⟩
     simp only [Act.put, List.setIfInBounds_toArray, List.set_cons_zero, List.set_cons_succ]
     refine zV (i := 8) rfl (by kernel_rfl) (by kernel_rfl) (by kernel_rfl) (by kernel_rfl) (by kernel_rfl) (fun _ _ _ h => h) rfl (fun _ _ => exNil rfl) B_0.out ?_
     simp only [Act.put, List.setIfInBounds_toArray, List.set_cons_zero, List.set_cons_succ]
     refine zV (i := 9) rfl (by kernel_rfl) (by kernel_rfl) (by kernel_rfl) (by kernel_rfl) (by kernel_rfl) (fun _ _ _ h => h) rfl (fun w' h => exLoad rfl (loadI54b gr (3 + i) w' y (((KO.out.ext h).cell (3 + i)).trans (by simpa using m2)))) B_0.out ?_
     simp only [Act.put, List.setIfInBounds_toArray, List.set_cons_zero, List.set_cons_succ]
     refine zV (i := 10) rfl (by kernel_rfl) (by kernel_rfl) (by kernel_rfl) (by kernel_rfl) (by kernel_rfl) (fun _ _ _ h => h) rfl (fun w' _ => exBin (v := .int .i64 (IntKind.i64.wrap (x + y))) rfl rfl (by rfl) (addW54 x y w')) B_0.out ?_
     simp only [Act.put, List.setIfInBounds_toArray, List.set_cons_zero, List.set_cons_succ]
     refine zV (i := 11) rfl (by kernel_rfl) (by kernel_rfl) (by kernel_rfl) (by kernel_rfl) (by kernel_rfl) (fun _ _ _ h => h) rfl (fun _ _ => exNil rfl) B_0.out ?_
     simp only [Act.put, List.setIfInBounds_toArray, List.set_cons_zero, List.set_cons_succ]
     refine wpAnyZ_all (rs := [12]) (by kernel_rfl) (by simp) ?_
     intro i hi
     simp only [List.mem_cons, List.not_mem_nil, or_false] at hi
     subst hi
     refine wpOp_of rfl rfl (wpStored1 rfl rfl (storeI54b gt (3 + i) wd _ (((KT.out.ext B_0.out).cell (3 + i)).trans (by simpa using m1)) ((KT.out.ext B_0.out).fr (3 + i))) ?_)
     refine ⟨noZ (by kernel_rfl), ?_⟩
     refine wpAnyZ_done (by kernel_rfl) ?_ _
     have KT2 : Hid (Blk (wd.setCell ⟨gt, 3 + i, none⟩ (.int .i64 (IntKind.i64.wrap (x + y)))) gt 107 (encR (midP t r (i + 1))).toArray) := row_set54 (KT.out.ext B_0.out) m3
     have KO2 := Lib.hid ((KO.out.ext B_0.out).far (p := ⟨gt, 3 + i, none⟩) hrt.out (.int .i64 (IntKind.i64.wrap (x + y))))
     have K22 := Lib.hid ((K2.out.ext B_0.out).far (p := ⟨gt, 3 + i, none⟩) hne.out (.int .i64 (IntKind.i64.wrap (x + y))))
     have KC2 := Lib.hid ((KC.out.ext B_0.out).far (p := ⟨gt, 3 + i, none⟩) hct.out (.int .i64 (IntKind.i64.wrap (x + y))))
     have B2 := Lib.hid (below_setCell (B.out.trans (B_0.out.mono B.out.size)) (p := ⟨gt, 3 + i, none⟩) hgw.out.1 (u := .int .i64 (IntKind.i64.wrap (x + y))))
     clear KT KO K2 KC B B_0 KN c1 c2 m1 m2 m3 hen hcall
     generalize (wd.setCell ⟨gt, 3 + i, none⟩ (.int .i64 (IntKind.i64.wrap (x + y)))) = wf at *
     go_wp2_with fail
     go_roundw
     case rel => exact ⟨i + 1, by omega, by go_num, KT2.out, KO2.out, K22.out, KC2.out, B2.out⟩
     case measure => simp [intOf]; omega
    ·have hik : ¬ (i : Int) < 5 := by omega
     obtain rfl : i = 5 := by omega
     rw [midP_end, ← TS.out] at KT
     clear KC KO
     go_wp2_with fail
     go_roundw
     case rel => exact ⟨k + 1, by omega, by go_num, KT.out, K2.out, B.out⟩
     case measure => simp [intOf]; omega
  ·have hlk : ¬ (k : Int) < (n : Int) := by omega
   rw [List.take_of_length_le (by rw [HN.out]; omega)] at KT
   go_wp2_with (first
    | (refine wpList_load_row rfl 107 _ (by rfl) gt (by rfl) _ _ _ _ KT.out underRow rfl infoRow ?_)
    | (refine wpList_store_row rfl 107 _ _ (by rfl) g2 (encR (totR R)).toArray (by rfl) (by rfl) _ _ K2.out infoRow rfl (all_oneCell_toArray (encR_one _)) ?_))
   refine bodyPost_ret (results_row54 rfl _ _ g2 _ (encR (totR R)).toArray _ rfl (K2.out.row _) underRow rfl infoRow) rfl ?_
   exact ⟨rfl, below_setRow B.out hgw.out.2 _⟩
end Go.Proofs.YtihggkmjalofiaaGreatDoor
