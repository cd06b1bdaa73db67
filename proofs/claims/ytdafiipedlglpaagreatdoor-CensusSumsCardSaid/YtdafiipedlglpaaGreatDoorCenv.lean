/- Texts of general use, one behind another. -/
import Derived.Test.YtdafiipedlglpaaGreatDoorCens
import Derived.Test.YtdafiipedlglpaaGreatDoorGen
import Derived.Test.YtdafiipedlglpaaGreatDoorIdxw
import Derived.Test.YtdafiipedlglpaaGreatDoorCenu

/- Rows together: walked. -/
namespace Go.Proofs.YtdafiipedlglpaaGreatDoor
open Go.RowKit

def plusR (t r : RowR) : RowR := (t.1, IntKind.i64.wrap (t.2.1 + r.2.1), IntKind.i64.wrap (t.2.2.1 + r.2.2.1), IntKind.i64.wrap (t.2.2.2.1 + r.2.2.2.1), IntKind.i64.wrap (t.2.2.2.2.1 + r.2.2.2.2.1), IntKind.i64.wrap (t.2.2.2.2.2.1 + r.2.2.2.2.2.1), IntKind.i64.wrap (t.2.2.2.2.2.2.1 + r.2.2.2.2.2.2.1), IntKind.i64.wrap (t.2.2.2.2.2.2.2.1 + r.2.2.2.2.2.2.2.1), IntKind.i64.wrap (t.2.2.2.2.2.2.2.2 + r.2.2.2.2.2.2.2.2))
def totR (R : List RowR) : RowR := R.foldl plusR zeroR
def midP (t r : RowR) (i : Nat) : RowR := (t.1, IntKind.i64.wrap (t.2.1 + r.2.1), IntKind.i64.wrap (t.2.2.1 + r.2.2.1), (if 1 ≤ i then IntKind.i64.wrap (t.2.2.2.1 + r.2.2.2.1) else t.2.2.2.1), (if 2 ≤ i then IntKind.i64.wrap (t.2.2.2.2.1 + r.2.2.2.2.1) else t.2.2.2.2.1), (if 3 ≤ i then IntKind.i64.wrap (t.2.2.2.2.2.1 + r.2.2.2.2.2.1) else t.2.2.2.2.2.1), (if 4 ≤ i then IntKind.i64.wrap (t.2.2.2.2.2.2.1 + r.2.2.2.2.2.2.1) else t.2.2.2.2.2.2.1), (if 5 ≤ i then IntKind.i64.wrap (t.2.2.2.2.2.2.2.1 + r.2.2.2.2.2.2.2.1) else t.2.2.2.2.2.2.2.1), IntKind.i64.wrap (t.2.2.2.2.2.2.2.2 + r.2.2.2.2.2.2.2.2))
theorem midP_zero (t r : RowR) : midP t r 0 = (t.1, IntKind.i64.wrap (t.2.1 + r.2.1), IntKind.i64.wrap (t.2.2.1 + r.2.2.1), t.2.2.2.1, t.2.2.2.2.1, t.2.2.2.2.2.1, t.2.2.2.2.2.2.1, t.2.2.2.2.2.2.2.1, IntKind.i64.wrap (t.2.2.2.2.2.2.2.2 + r.2.2.2.2.2.2.2.2)) := rfl
theorem midP_end (t r : RowR) : midP t r 5 = plusR t r := rfl
theorem midP_step (t r : RowR) {i : Nat} (h : i < 5) : ∃ a b : Int, (encR (midP t r i))[3 + i]? = some (.int .i64 a) ∧ (encR r)[3 + i]? = some (.int .i64 b) ∧ encR (midP t r (i + 1)) = (encR (midP t r i)).set (3 + i) (.int .i64 (IntKind.i64.wrap (a + b))) := by
  match i, h with
  | 0, _ => exact ⟨_, _, rfl, rfl, rfl⟩
  | 1, _ => exact ⟨_, _, rfl, rfl, rfl⟩
  | 2, _ => exact ⟨_, _, rfl, rfl, rfl⟩
  | 3, _ => exact ⟨_, _, rfl, rfl, rfl⟩
  | 4, _ => exact ⟨_, _, rfl, rfl, rfl⟩
theorem tot_snoc {R : List RowR} {k : Nat} {x : RowR} (h : R[k]? = some x) : totR (R.take (k + 1)) = plusR (totR (R.take k)) x := by
  unfold totR
  rw [List.take_add_one, h, Option.toList_some, List.foldl_append]
  rfl
theorem wp_calledV54 {P : Program} {Q : Exit → Act → World → Prop} {K : Act → World → Prop} {a : Act} {w : World} {d : Option Tmp} {ty : TypeId} {pos : String} {after : Array Edge} {gd : Option (Nat × Bool)} {x y : Operand} {ts : Array TypeId} {f : FuncId} {yv : Value} {R : Ending → World → Prop}
    (hf : ∀ args w, (callFunc f args).run P w = .ok (.enter f args) w) (hx : a.eval x = .func (.func f) #[] #[]) (hy : a.eval y = yv) (hc : Calls P f #[yv] w R)
    (h : ∀ e w', R e w' → ∃ v, e = .returned v ∧ K (a.put d v) w') : Oper.wp P ⟨d, .call { callee := .value x, args := #[y], argTypes := ts }, ty, pos, after, gd⟩ a w K Q := by
  have e1 : execOp a.eval ⟨d, .call { callee := .value x, args := #[y], argTypes := ts }, ty, pos, after, gd⟩ = callFunc f #[yv] := by
    unfold execOp resolve
    simp [hx, hy, Deferred.ofValue, invoke]
  unfold Oper.wp
  rw [e1, hf]
  refine hc.mono fun e w' hr => ?_
  obtain ⟨v, rfl, hk⟩ := h e w' hr
  exact hk
theorem fieldCnt1 (g : Nat) (w : World) : (Instr.fieldAt 199 (.pointer (some ⟨g, 0, none⟩)) 1).run Tryz.prog w = .ok (.pointer (some ⟨g, 1, none⟩)) w := by simp [go_sem]
theorem loadFun (b o : Nat) (w : World) (f : FuncId) (h : w.cell? ⟨b, o, none⟩ = some (.func (.func f) #[] #[])) : (Instr.loadAt 197 (.pointer (some ⟨b, o, none⟩))).run Tryz.prog w = .ok (.func (.func f) #[] #[]) w := by simp [go_sem, h]
theorem loadI54b (b o : Nat) (w : World) (z : Int) (h : w.cell? ⟨b, o, none⟩ = some (.int .i64 z)) : (Instr.loadAt 3 (.pointer (some ⟨b, o, none⟩))).run Tryz.prog w = .ok (.int .i64 z) w := by simp [go_sem, h]
theorem addW54 (a b : Int) (w : World) : (binOp .add 3 (.int .i64 a) (.int .i64 b)).run Tryz.prog w = .ok (.int .i64 (IntKind.i64.wrap (a + b))) w := by
  simp [go_sem, IntKind.wrap_i64]
theorem storeI54b (b o : Nat) (w : World) (z : Int) {u : Value} (h : w.cell? ⟨b, o, none⟩ = some u) (hf : w.frozen? ⟨b, o, none⟩ = false) : (Instr.storeAt 3 (.pointer (some ⟨b, o, none⟩)) (.int .i64 z)).run Tryz.prog w = .ok () (w.setCell ⟨b, o, none⟩ (.int .i64 z)) := by simp [go_sem, h, hf]
theorem row_set54 {w : World} {g : Nat} {t : TypeId} {r r' : RowR} {i : Nat} {v : Value} (h : Blk w g t (encR r).toArray) (he : encR r' = (encR r).set i v) : Blk (w.setCell ⟨g, i, none⟩ v) g t (encR r').toArray := by
  have h1 := h.set_ i v
  rw [he]
  simpa using h1
theorem results_row54 {P : Program} {fn : Func} {p : Tmp} {ty : TypeId} (h : fn.results = #[.cell p ty]) (tmps : Array Value) (w : World) (g : Nat) (t : TypeId) (cs : Array Value) (D : TypeDesc)
    (hp : tmps.getD p undef = .pointer (some ⟨g, 0, none⟩)) (hg : Blk w g t cs) (hu : P.underlying ty = some D) (hd : (match D with | .struct _ | .array _ _ => true | _ => false) = true) (hi : (P.info? ty).map (·.size) = some cs.size) :
    (results fn tmps).run P w = .ok (.agg cs) w := results_cell_row h tmps w g t cs (0, 0) D hp hg hu hd hi
theorem mixed54m : Tryz.prog.follows .mixedOrders = true := by kernel_rfl
set_option maxRecDepth 100000 in
set_option maxHeartbeats 8000000 in
theorem total54_any (R : List RowR) (w : World) (A : Option Addr) (c n : Nat) (hn : R.length = n) (hm : n ≤ 1000) (h : Sl w w.heap.size 9 A n (R.flatMap encR)) :
    Calls Tryz.prog 52 #[.slice A n c] w (RetB w (.agg (encR (totR R)).toArray)) := by
  have H := Lib.hid h
  have HN := Lib.hid hn
  clear h hn
  have K2a : Hid (Blk (w.alloc (.cells (encR zeroR).toArray 93)) w.heap.size 93 (encR zeroR).toArray) := Blk.new _ _ _
  have B0a : Hid (Below w.heap.size w (w.alloc (.cells (encR zeroR).toArray 93))) := below_new _ _
  go_enter Tryz.func52, Tryz.ntmps52
  go_upto_region 1 with (refine wpList_alloced (allocRow _) ?_)
  generalize (w.alloc (.cells (encR zeroR).toArray 93)) = wa at *
  obtain ⟨g2, hg2⟩ : ∃ g, g = w.heap.size := ⟨_, rfl⟩
  rw [← hg2] at K2a ⊢
  have K2 := Lib.hid (K2a.out.alloc (.cells (encR zeroR).toArray 93))
  have K3 : Hid (Blk (wa.alloc (.cells (encR zeroR).toArray 93)) wa.heap.size 93 (encR (totR (R.take 0))).toArray) := Blk.new _ _ _
  have B0 := Lib.hid (B0a.out.alloc B0a.out.size (.cells (encR zeroR).toArray 93))
  have hne : Hid (g2 ≠ wa.heap.size) := by have := K2a.out.lt; rw [Hid]; omega
  have hgw : Hid (w.heap.size ≤ wa.heap.size ∧ w.heap.size ≤ g2) := ⟨B0a.out.size, by omega⟩
  clear hg2 K2a B0a
  go_upto_region 2 with (refine wpList_alloced (allocRow _) ?_)
  generalize (wa.alloc (.cells (encR zeroR).toArray 93)) = w1 at *
  generalize wa.heap.size = gt at *
  go_wp2_with fail
  go_loopw [10] (fun iv wr => ∃ k : Nat, k ≤ n ∧ iv = .int .i64 ((k : Nat) : Int) ∧ Hid (Blk wr gt 93 (encR (totR (R.take k))).toArray) ∧ Hid (Blk wr g2 93 (encR zeroR).toArray) ∧ Hid (Below w.heap.size w wr)) (fun iv _ => n - (intOf iv).toNat)
  case atStart => exact ⟨0, Nat.zero_le _, rfl, K3.out, K2.out, B0.out⟩
  case round =>
    clear K3 K2 B0
    obtain ⟨k, hk, rfl, KT, K2, B⟩ := hrel
    have hk0 : (0 : Int) ≤ (k : Int) := by omega
    by_cases hlt : k < n
    · have hlk : (k : Int) < (n : Int) := by omega
      obtain ⟨b, o, rfl, hb, hc⟩ := H.out.2 (by omega)
      obtain ⟨r, hx⟩ : ∃ x, R[k]? = some x := ⟨_, List.getElem?_eq_getElem (by rw [HN.out]; exact hlt)⟩
      have R0 : w.rangeAt b (o + k * 9) (encR r) := fun j v hj => by
        have hj9 := (List.getElem?_eq_some_iff.1 hj).1
        rw [encR_len] at hj9
        have hkl : k < R.length := by rw [HN.out]; exact hlt
        have h2 := hc (k * 9 + j) (by omega)
        rw [flatMap_get encR R (fun x _ => encR_len x) k j hkl hj9, (List.getElem?_eq_some_iff.1 hx).2] at h2
        rw [Nat.add_assoc, h2]
        exact hj
      have RX := Lib.hid (rangeAt_below R0 B.out hb)
      have TS := Lib.hid (tot_snoc hx)
      obtain ⟨t, ht⟩ : ∃ t, t = totR (R.take k) := ⟨_, rfl⟩
      rw [← ht] at TS KT
      clear hx hb hc R0 ht
      have KZ : Hid (Blk (wr.alloc (.cells (encR zeroR).toArray 93)) wr.heap.size 93 (encR zeroR).toArray) := Blk.new _ _ _
      have KO : Hid (Blk ((wr.alloc (.cells (encR zeroR).toArray 93)).setRow wr.heap.size (encR r).toArray) wr.heap.size 93 (encR r).toArray) := KZ.out.row _
      have BN : Hid (Below wr.heap.size wr ((wr.alloc (.cells (encR zeroR).toArray 93)).setRow wr.heap.size (encR r).toArray)) := below_setRow (below_new wr _) (Nat.le_refl _) _
      go_upto_region 5 with (first
        | (refine wpList_load_mid rfl 93 _ (by rfl) b (o + k * 9) (by rfl) _ _ RX.out underRow rfl infoRow ?_)
        | (refine wpList_alloced (allocRow _) ?_)
        | (refine wpList_store_row rfl 93 _ _ (by rfl) wr.heap.size (encR r).toArray (by rfl) (by rfl) _ _ KZ.out infoRow rfl (all_oneCell_toArray (encR_one r)) ?_))
      have hrt : Hid (wr.heap.size ≠ gt) := by have := KT.out.lt; rw [Hid]; omega
      replace KT := Lib.hid (KT.out.ext BN.out)
      replace K2 := Lib.hid (K2.out.ext BN.out)
      replace B := Lib.hid (B.out.trans (BN.out.mono B.out.size))
      generalize ((wr.alloc (.cells (encR zeroR).toArray 93)).setRow wr.heap.size (encR r).toArray) = wq at *
      generalize wr.heap.size = gr at *
      clear KZ BN RX
      obtain ⟨v1, hv1⟩ : ∃ v, IntKind.i64.wrap (t.2.1 + r.2.1) = v := ⟨_, rfl⟩
      have y1 : wq.cell? ⟨gt, 1, none⟩ = some (.int .i64 (t.2.1)) := KT.out.cell 1
      have y2 : wq.cell? ⟨gr, 1, none⟩ = some (.int .i64 (r.2.1)) := KO.out.cell 1
      have f1 : wq.frozen? ⟨gt, 1, none⟩ = false := KT.out.fr 1
      go_upto_region 6 with fail
      clear y1 y2 f1
      replace hv1 := Lib.hid hv1
      replace KT : Hid (Blk (wq.setCell ⟨gt, 1, none⟩ (.int .i64 v1)) gt 93 (encR (t.1, v1, t.2.2.1, t.2.2.2.1, t.2.2.2.2.1, t.2.2.2.2.2.1, t.2.2.2.2.2.2.1, t.2.2.2.2.2.2.2.1, t.2.2.2.2.2.2.2.2)).toArray) := row_set54 KT.out rfl
      replace KO := Lib.hid (KO.out.far (p := ⟨gt, 1, none⟩) hrt.out (.int .i64 v1))
      replace K2 := Lib.hid (K2.out.far (p := ⟨gt, 1, none⟩) hne.out (.int .i64 v1))
      replace B := Lib.hid (below_setCell B.out (p := ⟨gt, 1, none⟩) hgw.out.1 (u := .int .i64 v1))
      generalize (wq.setCell ⟨gt, 1, none⟩ (.int .i64 v1)) = wq at *
      obtain ⟨v2, hv2⟩ : ∃ v, IntKind.i64.wrap (t.2.2.1 + r.2.2.1) = v := ⟨_, rfl⟩
      have y1 : wq.cell? ⟨gt, 2, none⟩ = some (.int .i64 (t.2.2.1)) := KT.out.cell 2
      have y2 : wq.cell? ⟨gr, 2, none⟩ = some (.int .i64 (r.2.2.1)) := KO.out.cell 2
      have f1 : wq.frozen? ⟨gt, 2, none⟩ = false := KT.out.fr 2
      go_upto_region 7 with fail
      clear y1 y2 f1
      replace hv2 := Lib.hid hv2
      replace KT : Hid (Blk (wq.setCell ⟨gt, 2, none⟩ (.int .i64 v2)) gt 93 (encR (t.1, v1, v2, t.2.2.2.1, t.2.2.2.2.1, t.2.2.2.2.2.1, t.2.2.2.2.2.2.1, t.2.2.2.2.2.2.2.1, t.2.2.2.2.2.2.2.2)).toArray) := row_set54 KT.out rfl
      replace KO := Lib.hid (KO.out.far (p := ⟨gt, 2, none⟩) hrt.out (.int .i64 v2))
      replace K2 := Lib.hid (K2.out.far (p := ⟨gt, 2, none⟩) hne.out (.int .i64 v2))
      replace B := Lib.hid (below_setCell B.out (p := ⟨gt, 2, none⟩) hgw.out.1 (u := .int .i64 v2))
      generalize (wq.setCell ⟨gt, 2, none⟩ (.int .i64 v2)) = wq at *
      obtain ⟨v8, hv8⟩ : ∃ v, IntKind.i64.wrap (t.2.2.2.2.2.2.2.2 + r.2.2.2.2.2.2.2.2) = v := ⟨_, rfl⟩
      have y1 : wq.cell? ⟨gt, 8, none⟩ = some (.int .i64 (t.2.2.2.2.2.2.2.2)) := KT.out.cell 8
      have y2 : wq.cell? ⟨gr, 8, none⟩ = some (.int .i64 (r.2.2.2.2.2.2.2.2)) := KO.out.cell 8
      have f1 : wq.frozen? ⟨gt, 8, none⟩ = false := KT.out.fr 8
      go_upto_region 8 with fail
      clear y1 y2 f1
      replace hv8 := Lib.hid hv8
      replace KT : Hid (Blk (wq.setCell ⟨gt, 8, none⟩ (.int .i64 v8)) gt 93 (encR (t.1, v1, v2, t.2.2.2.1, t.2.2.2.2.1, t.2.2.2.2.2.1, t.2.2.2.2.2.2.1, t.2.2.2.2.2.2.2.1, v8)).toArray) := row_set54 KT.out rfl
      replace KO := Lib.hid (KO.out.far (p := ⟨gt, 8, none⟩) hrt.out (.int .i64 v8))
      replace K2 := Lib.hid (K2.out.far (p := ⟨gt, 8, none⟩) hne.out (.int .i64 v8))
      replace B := Lib.hid (below_setCell B.out (p := ⟨gt, 8, none⟩) hgw.out.1 (u := .int .i64 v8))
      generalize (wq.setCell ⟨gt, 8, none⟩ (.int .i64 v8)) = wq at *
      have e0 : (t.1, v1, v2, t.2.2.2.1, t.2.2.2.2.1, t.2.2.2.2.2.1, t.2.2.2.2.2.2.1, t.2.2.2.2.2.2.2.1, v8) = midP t r 0 := by rw [midP_zero, hv1.out, hv2.out, hv8.out]
      rw [e0] at KT
      clear e0 hv1 hv2 hv8
      go_wp2_with fail
      have HKT := Lib.hid KT.out.lt
      refine (counts_any wq).mono ?_
      rintro e _ ⟨rfl, rfl⟩
      have KC : Hid (Blk (wq.alloc (.cells cntC.toArray 199)) wq.heap.size 199 cntC.toArray) := Blk.new _ _ _
      have BC : Hid (Below wq.heap.size wq (wq.alloc (.cells cntC.toArray 199))) := below_new _ _
      replace KT := Lib.hid (KT.out.ext BC.out)
      replace K2 := Lib.hid (K2.out.ext BC.out)
      replace KO := Lib.hid (KO.out.ext BC.out)
      have hct : Hid (wq.heap.size ≠ gt) := by exact fun e => absurd HKT.out (by rw [← e]; exact Nat.lt_irrefl _)
      replace B := Lib.hid (B.out.trans (BC.out.mono B.out.size))
      generalize (wq.alloc (.cells cntC.toArray 199)) = w6 at *
      generalize wq.heap.size = gc at *
      clear BC
      go_wp2_with fail
      go_loopw [34] (fun iv ws => ∃ i : Nat, i ≤ 5 ∧ iv = .int .i64 ((i : Nat) : Int) ∧ Hid (Blk ws gt 93 (encR (midP t r i)).toArray) ∧ Hid (Blk ws gr 93 (encR r).toArray) ∧ Hid (Blk ws g2 93 (encR zeroR).toArray) ∧ Hid (Blk ws gc 199 cntC.toArray) ∧ Hid (Below w.heap.size w ws)) (fun iv _ => 5 - (intOf iv).toNat)
      case atStart => exact ⟨0, by omega, rfl, KT.out, KO.out, K2.out, KC.out, B.out⟩
      case round =>
        clear KT KO K2 KC B
        obtain ⟨i, hi, rfl, KT, KO, K2, KC, B⟩ := hrel
        have hi0 : (0 : Int) ≤ (i : Int) := by omega
        by_cases hit : i < 5
        · have hik : (i : Int) < 5 := by omega
          obtain ⟨f, q1, q2, hen, hcall⟩ := cnt_one hit
          have RC : Hid (wr.rangeAt gc (i * 2) [.int .u8 ((i : Int) + 1), .func (.func f) #[] #[]]) := fun j v hj => by
            match j, hj with
            | 0, hj => rw [KC.out.cell, List.getElem?_toArray, Nat.add_zero, q1]; exact hj
            | 1, hj => rw [KC.out.cell, List.getElem?_toArray, q2]; exact hj
          obtain ⟨x, y, m1, m2, m3⟩ := midP_step t r hit
          clear q1 q2
          have KZ : Hid (Blk (wr.alloc (.cells #[.int .u8 0, .nilFunc] 199)) wr.heap.size 199 #[.int .u8 0, .nilFunc]) := Blk.new _ _ _
          have KN : Hid (Blk ((wr.alloc (.cells #[.int .u8 0, .nilFunc] 199)).setRow wr.heap.size #[.int .u8 ((i : Int) + 1), .func (.func f) #[] #[]]) wr.heap.size 199 #[.int .u8 ((i : Int) + 1), .func (.func f) #[] #[]]) := KZ.out.row _
          have BN : Hid (Below wr.heap.size wr ((wr.alloc (.cells #[.int .u8 0, .nilFunc] 199)).setRow wr.heap.size #[.int .u8 ((i : Int) + 1), .func (.func f) #[] #[]])) := below_setRow (below_new wr _) (Nat.le_refl _) _
          go_upto_region 11 with (first
            | (refine wpList_load_mid rfl 199 _ (by rfl) gc (i * 2) (by rfl) _ _ RC.out underCnt rfl infoCnt ?_)
            | (refine wpList_alloced (allocCnt _) ?_)
            | (refine wpList_store_row rfl 199 _ _ (by rfl) wr.heap.size #[.int .u8 ((i : Int) + 1), .func (.func f) #[] #[]] (by rfl) (by rfl) _ _ KZ.out infoCnt rfl (by simp [Value.oneCell']) ?_))
          replace KT := Lib.hid (KT.out.ext BN.out)
          replace KO := Lib.hid (KO.out.ext BN.out)
          replace K2 := Lib.hid (K2.out.ext BN.out)
          replace KC := Lib.hid (KC.out.ext BN.out)
          replace B := Lib.hid (B.out.trans (BN.out.mono B.out.size))
          generalize ((wr.alloc (.cells #[.int .u8 0, .nilFunc] 199)).setRow wr.heap.size #[.int .u8 ((i : Int) + 1), .func (.func f) #[] #[]]) = wq at *
          generalize wr.heap.size = gn at *
          clear BN KZ RC
          have c1 : Hid (∀ u : World, Calls Tryz.prog f #[.pointer (some ⟨gt, 0, none⟩)] u (Ret u (.pointer (some ⟨gt, 3 + i, none⟩)))) := fun u => by have h1 := hcall gt 0 u; rw [Nat.zero_add] at h1; exact h1
          have c2 : Hid (∀ u : World, Calls Tryz.prog f #[.pointer (some ⟨gr, 0, none⟩)] u (Ret u (.pointer (some ⟨gr, 3 + i, none⟩)))) := fun u => by have h1 := hcall gr 0 u; rw [Nat.zero_add] at h1; exact h1
          refine wp_region_Z (S := fun w' => Below wq.heap.size wq w') (Z := [12]) mixed54m ?_
          have B_0 : Hid (Below wq.heap.size wq wq.drew) := (Below.refl _ _).drew
          change wpAnyZ _ _ _ _ _ _ _ _ _ wq.drew
          generalize wq.drew = wd at *
          simp only [List.size_toArray, List.length_cons, List.length_nil]
          refine zV (i := 0) rfl (by kernel_rfl) (by kernel_rfl) (by kernel_rfl) (by kernel_rfl) (by kernel_rfl) (fun _ _ _ h => h) rfl (fun w' _ => exField rfl (fieldCnt1 gn w')) B_0.out ?_
          simp only [Act.put, List.setIfInBounds_toArray, List.set_cons_zero, List.set_cons_succ]
          refine zV (i := 1) rfl (by kernel_rfl) (by kernel_rfl) (by kernel_rfl) (by kernel_rfl) (by kernel_rfl) (fun _ _ _ h => h) rfl (fun w' h => exLoad rfl (loadFun gn 1 w' f ((KN.out.ext h).cell 1))) B_0.out ?_
          simp only [Act.put, List.setIfInBounds_toArray, List.set_cons_zero, List.set_cons_succ]
          refine zV (i := 5) rfl (by kernel_rfl) (by kernel_rfl) (by kernel_rfl) (by kernel_rfl) (by kernel_rfl) (fun _ _ _ h => h) rfl (fun w' _ => exField rfl (fieldCnt1 gn w')) B_0.out ?_
          simp only [Act.put, List.setIfInBounds_toArray, List.set_cons_zero, List.set_cons_succ]
          refine zV (i := 6) rfl (by kernel_rfl) (by kernel_rfl) (by kernel_rfl) (by kernel_rfl) (by kernel_rfl) (fun _ _ _ h => h) rfl (fun w' h => exLoad rfl (loadFun gn 1 w' f ((KN.out.ext h).cell 1))) B_0.out ?_
          simp only [Act.put, List.setIfInBounds_toArray, List.set_cons_zero, List.set_cons_succ]
          refine wpAnyZ_all (rs := [2]) (by kernel_rfl) (by simp) ?_
          intro i hi
          simp only [List.mem_cons, List.not_mem_nil, or_false] at hi
          subst hi
          refine wpOp_of rfl rfl (wp_calledV54 hen rfl rfl (c1.out wd) ?_)
          rintro _ _ ⟨rfl, rfl⟩
          refine ⟨_, rfl, fun _ => B_0.out, ?_⟩
          simp only [Act.put, List.setIfInBounds_toArray, List.set_cons_zero, List.set_cons_succ]
          refine zV (i := 3) rfl (by kernel_rfl) (by kernel_rfl) (by kernel_rfl) (by kernel_rfl) (by kernel_rfl) (fun _ _ _ h => h) rfl (fun _ _ => exNil rfl) B_0.out ?_
          simp only [Act.put, List.setIfInBounds_toArray, List.set_cons_zero, List.set_cons_succ]
          refine zV (i := 4) rfl (by kernel_rfl) (by kernel_rfl) (by kernel_rfl) (by kernel_rfl) (by kernel_rfl) (fun _ _ _ h => h) rfl (fun w' h => exLoad rfl (loadI54b gt (3 + i) w' x (((KT.out.ext h).cell (3 + i)).trans (by simpa using m1)))) B_0.out ?_
          simp only [Act.put, List.setIfInBounds_toArray, List.set_cons_zero, List.set_cons_succ]
          refine wpAnyZ_all (rs := [7]) (by kernel_rfl) (by simp) ?_
          intro i hi
          simp only [List.mem_cons, List.not_mem_nil, or_false] at hi
          subst hi
          refine wpOp_of rfl rfl (wp_calledV54 hen rfl rfl (c2.out wd) ?_)
          rintro _ _ ⟨rfl, rfl⟩
          refine ⟨_, rfl, fun _ => B_0.out, ?_⟩
          simp only [Act.put, List.setIfInBounds_toArray, List.set_cons_zero, List.set_cons_succ]
          refine zV (i := 8) rfl (by kernel_rfl) (by kernel_rfl) (by kernel_rfl) (by kernel_rfl) (by kernel_rfl) (fun _ _ _ h => h) rfl (fun _ _ => exNil rfl) B_0.out ?_
          simp only [Act.put, List.setIfInBounds_toArray, List.set_cons_zero, List.set_cons_succ]
          refine zV (i := 9) rfl (by kernel_rfl) (by kernel_rfl) (by kernel_rfl) (by kernel_rfl) (by kernel_rfl) (fun _ _ _ h => h) rfl (fun w' h => exLoad rfl (loadI54b gr (3 + i) w' y (((KO.out.ext h).cell (3 + i)).trans (by simpa using m2)))) B_0.out ?_
          simp only [Act.put, List.setIfInBounds_toArray, List.set_cons_zero, List.set_cons_succ]
          refine zV (i := 10) rfl (by kernel_rfl) (by kernel_rfl) (by kernel_rfl) (by kernel_rfl) (by kernel_rfl) (fun _ _ _ h => h) rfl (fun w' _ => exBin (v := .int .i64 (IntKind.i64.wrap (x + y))) rfl rfl (by rfl) (addW54 x y w')) B_0.out ?_
          simp only [Act.put, List.setIfInBounds_toArray, List.set_cons_zero, List.set_cons_succ]
          refine zV (i := 11) rfl (by kernel_rfl) (by kernel_rfl) (by kernel_rfl) (by kernel_rfl) (by kernel_rfl) (fun _ _ _ h => h) rfl (fun _ _ => exNil rfl) B_0.out ?_
          simp only [Act.put, List.setIfInBounds_toArray, List.set_cons_zero, List.set_cons_succ]
          refine wpAnyZ_all (rs := [12]) (by kernel_rfl) (by simp) ?_
          intro i hi
          simp only [List.mem_cons, List.not_mem_nil, or_false] at hi
          subst hi
          refine wpOp_of rfl rfl (wpStored1 rfl rfl (storeI54b gt (3 + i) wd _ (((KT.out.ext B_0.out).cell (3 + i)).trans (by simpa using m1)) ((KT.out.ext B_0.out).fr (3 + i))) ?_)
          refine ⟨noZ (by kernel_rfl), ?_⟩
          refine wpAnyZ_done (by kernel_rfl) ?_ _
          have KT2 : Hid (Blk (wd.setCell ⟨gt, 3 + i, none⟩ (.int .i64 (IntKind.i64.wrap (x + y)))) gt 93 (encR (midP t r (i + 1))).toArray) := row_set54 (KT.out.ext B_0.out) m3
          have KO2 := Lib.hid ((KO.out.ext B_0.out).far (p := ⟨gt, 3 + i, none⟩) hrt.out (.int .i64 (IntKind.i64.wrap (x + y))))
          have K22 := Lib.hid ((K2.out.ext B_0.out).far (p := ⟨gt, 3 + i, none⟩) hne.out (.int .i64 (IntKind.i64.wrap (x + y))))
          have KC2 := Lib.hid ((KC.out.ext B_0.out).far (p := ⟨gt, 3 + i, none⟩) hct.out (.int .i64 (IntKind.i64.wrap (x + y))))
          have B2 := Lib.hid (below_setCell (B.out.trans (B_0.out.mono B.out.size)) (p := ⟨gt, 3 + i, none⟩) hgw.out.1 (u := .int .i64 (IntKind.i64.wrap (x + y))))
          clear KT KO K2 KC B B_0 KN c1 c2 m1 m2 m3 hen hcall
          generalize (wd.setCell ⟨gt, 3 + i, none⟩ (.int .i64 (IntKind.i64.wrap (x + y)))) = wf at *
          go_wp2_with fail
          go_roundw
          case rel => exact ⟨i + 1, by omega, by go_num, KT2.out, KO2.out, K22.out, KC2.out, B2.out⟩
          case measure => simp [intOf]; omega
        · have hik : ¬ (i : Int) < 5 := by omega
          obtain rfl : i = 5 := by omega
          rw [midP_end, ← TS.out] at KT
          clear KC KO
          go_wp2_with fail
          go_roundw
          case rel => exact ⟨k + 1, by omega, by go_num, KT.out, K2.out, B.out⟩
          case measure => simp [intOf]; omega
    · have hlk : ¬ (k : Int) < (n : Int) := by omega
      rw [List.take_of_length_le (by rw [HN.out]; omega)] at KT
      go_wp2_with (first
        | (refine wpList_load_row rfl 93 _ (by rfl) gt (by rfl) _ _ _ _ KT.out underRow rfl infoRow ?_)
        | (refine wpList_store_row rfl 93 _ _ (by rfl) g2 (encR (totR R)).toArray (by rfl) (by rfl) _ _ K2.out infoRow rfl (all_oneCell_toArray (encR_one _)) ?_))
      refine bodyPost_ret (results_row54 rfl _ _ g2 _ (encR (totR R)).toArray _ rfl (K2.out.row _) underRow rfl infoRow) rfl ?_
      exact ⟨rfl, below_setRow B.out hgw.out.2 _⟩
end Go.Proofs.YtdafiipedlglpaaGreatDoor

/- Together the rows are the graph: plain laws; no program in sight. -/
namespace Go.Proofs.YtdafiipedlglpaaGreatDoor

def sumTo (g : Nat → Nat) : Nat → Nat
  | 0 => 0
  | n + 1 => sumTo g n + g (n + 1)
theorem sumTo_add (g h : Nat → Nat) : ∀ n, sumTo (fun a => g a + h a) n = sumTo g n + sumTo h n
  | 0 => rfl
  | n + 1 => by
    show sumTo _ n + (g (n + 1) + h (n + 1)) = (sumTo g n + g (n + 1)) + (sumTo h n + h (n + 1))
    rw [sumTo_add g h n]
    omega
theorem sumTo_congr {g h : Nat → Nat} (e : ∀ a, g a = h a) (n : Nat) : sumTo g n = sumTo h n := by rw [show g = h from funext e]
theorem sumTo_zero : ∀ n, sumTo (fun _ => 0) n = 0
  | 0 => rfl
  | n + 1 => by show sumTo _ n + 0 = 0; rw [sumTo_zero n]
theorem sumTo_one (b c : Nat) (hb : 1 ≤ b) : ∀ n, sumTo (fun a => if b = a then c else 0) n = if b ≤ n then c else 0
  | 0 => by rw [if_neg (by omega)]; rfl
  | n + 1 => by
    show sumTo _ n + (if b = n + 1 then c else 0) = _
    rw [sumTo_one b c hb n]
    by_cases h1 : b = n + 1
    · rw [if_pos h1, if_neg (by omega), if_pos (by omega)]; omega
    · rw [if_neg h1]
      by_cases h2 : b ≤ n
      · rw [if_pos h2, if_pos (by omega)]; rfl
      · rw [if_neg h2, if_neg (by omega)]
theorem sumTo_le {g : Nat → Nat} {b : Nat} (h : ∀ a, g a ≤ b) : ∀ n, sumTo g n ≤ n * b
  | 0 => Nat.zero_le _
  | n + 1 => by
    have h1 := sumTo_le h n
    have h2 := h (n + 1)
    show sumTo g n + g (n + 1) ≤ _
    rw [Nat.succ_mul]
    omega
/-- by authors, or all together: the same -/
theorem sumTo_all {α : Type} (au : α → Nat) (f : α → Nat) : ∀ l : List α, (∀ x ∈ l, 1 ≤ au x ∧ au x ≤ 64) → sumTo (fun a => ((l.filter fun x => decide (au x = a)).map f).sum) 64 = (l.map f).sum
  | [], _ => by
    show sumTo (fun _ => 0) 64 = 0
    exact sumTo_zero 64
  | x :: l, h => by
    have ih := sumTo_all au f l fun y hy => h y (List.mem_cons_of_mem _ hy)
    have hx := h x (List.mem_cons_self ..)
    have e : ∀ a, (((x :: l).filter fun x => decide (au x = a)).map f).sum = (if au x = a then f x else 0) + ((l.filter fun x => decide (au x = a)).map f).sum := fun a => by
      by_cases ha : au x = a
      · rw [List.filter_cons_of_pos (by simpa using ha), if_pos ha, List.map_cons, List.sum_cons]
      · rw [List.filter_cons_of_neg (by simpa using ha), if_neg ha, Nat.zero_add]
    rw [sumTo_congr e, sumTo_add, ih, sumTo_one _ _ hx.1, if_pos hx.2, List.map_cons, List.sum_cons]
theorem len_sum {α : Type} (l : List α) : (l.map fun _ => 1).sum = l.length := by induction l with
  | nil => rfl
  | cons a l ih => rw [List.map_cons, List.sum_cons, List.length_cons, ih]; omega
theorem totR_snoc (R : List RowR) (x : RowR) : totR (R ++ [x]) = plusR (totR R) x := by unfold totR; rw [List.foldl_append]; rfl
def sumR (L : List PatV) (k : Nat) : RowR := (0, (sumTo (fun a => (ofA L a).length) k : Nat), (sumTo (fun a => bytesS (ofA L a)) k : Nat), (sumTo (fun a => kindS 1 (ofA L a)) k : Nat), (sumTo (fun a => kindS 2 (ofA L a)) k : Nat), (sumTo (fun a => kindS 3 (ofA L a)) k : Nat), (sumTo (fun a => kindS 4 (ofA L a)) k : Nat), (sumTo (fun a => kindS 5 (ofA L a)) k : Nat), (sumTo (fun a => aliveA (vertsL L) a) k : Nat))
theorem wrap_nat {a b : Nat} (h : a + b ≤ 1000000000000) : IntKind.i64.wrap ((a : Int) + (b : Int)) = ((a + b : Nat) : Int) := by
  rw [IntWalk.i64_in _ (by omega)]
  omega
theorem GrOk.alive_none {L : List PatV} (h : GrOk L) {a : Nat} (ha : ofA L a = []) : aliveA (vertsL L) a = 0 := by
  unfold aliveA
  rw [List.length_eq_zero_iff, List.filter_eq_nil_iff]
  intro x hx hb
  have h1 := (h.verts x).1 hx
  unfold vertV at h1
  cases hr : rawV L x.1 with
  | none => rw [hr] at h1; cases h1
  | some r =>
    obtain ⟨p, hp, h2⟩ := rawV_mem hr
    have h3 := rawP_name h2
    unfold aliveB at hb
    rw [Bool.and_eq_true, decide_eq_true_eq] at hb
    have h4 : p ∈ ofA L a := List.mem_filter.2 ⟨hp, by rw [decide_eq_true_eq, h3]; exact hb.1⟩
    rw [ha] at h4
    cases h4
theorem GrOk.vauth1 {L : List PatV} (h : GrOk L) {x : VertV} (hx : x ∈ vertsL L) : 1 ≤ x.1.1.1.val ∧ x.1.1.1.val ≤ 64 := by
  have h1 := (h.verts x).1 hx
  unfold vertV at h1
  cases hr : rawV L x.1 with
  | none => rw [hr] at h1; cases h1
  | some r =>
    obtain ⟨p, hp, h2⟩ := rawV_mem hr
    have h3 := rawP_name h2
    have h4 := h.auth hp
    rw [h3] at h4
    exact h4
theorem tot_rows {L : List PatV} (hG : GrOk L) (hl : L.length ≤ 20) : ∀ k, k ≤ 64 → totR (rowsTo L k) = sumR L k
  | 0, _ => rfl
  | k + 1, hk => by
    have ih := tot_rows hG hl k (by omega)
    have hV := vertsL_few hG (by omega)
    have hm : ∀ a, (ofA L a).length ≤ 20 := fun a => Nat.le_trans (ofA_len L a) hl
    have hgood : ∀ a, ∀ p ∈ ofA L a, patB p = true := fun a p hp => hG.good p (List.mem_filter.1 hp).1
    have b1 := sumTo_le (g := fun a => (ofA L a).length) (b := 400000) (fun a => by have := hm a; omega) k
    have b2 := sumTo_le (g := fun a => bytesS (ofA L a)) (b := 400000) (fun a => by have := hm a; have := bytesS_le (hgood a); show bytesS (ofA L a) ≤ _; omega) k
    have bk : ∀ m, sumTo (fun a => kindS m (ofA L a)) k ≤ k * 400000 := fun m => sumTo_le (fun a => by have := hm a; have := kindS_le (hgood a) m; omega) k
    have b8 := sumTo_le (g := fun a => aliveA (vertsL L) a) (b := 400000) (fun a => by have := aliveA_le (vertsL L) a; show aliveA (vertsL L) a ≤ _; omega) k
    have c1 := hm (k + 1)
    have c2 := bytesS_le (hgood (k + 1))
    have ck := fun m => kindS_le (hgood (k + 1)) m
    have c8 := aliveA_le (vertsL L) (k + 1)
    have k1 := bk 1; have k2 := bk 2; have k3 := bk 3; have k4 := bk 4; have k5 := bk 5
    have d1 := ck 1; have d2 := ck 2; have d3 := ck 3; have d4 := ck 4; have d5 := ck 5
    rw [rowsTo_snoc]
    by_cases hr : hasR (rowC L (k + 1)) = true
    · rw [if_pos hr, totR_snoc, ih]
      unfold plusR sumR rowC rowM
      simp only [sumTo]
      rw [wrap_nat (by omega), wrap_nat (by omega), wrap_nat (by omega), wrap_nat (by omega), wrap_nat (by omega), wrap_nat (by omega), wrap_nat (by omega), wrap_nat (by omega)]
    · have h0 : (ofA L (k + 1)).length = 0 := by
        unfold hasR rowC rowM at hr
        simp only [Bool.not_eq_true', decide_eq_false_iff_not, Classical.not_not] at hr
        omega
      have hnil := List.length_eq_zero_iff.1 h0
      have ha := hG.alive_none hnil
      rw [if_neg hr, List.append_nil, ih]
      unfold sumR
      simp only [sumTo]
      rw [hnil, ha]
      rfl
theorem sum_rows {L : List PatV} (hG : GrOk L) (hl : L.length ≤ 20) : totR (rowsC L) = rowM 0 L ((vertsL L).filter fun x => !x.2.2.2.2).length := by
  have hau : ∀ p ∈ L, 1 ≤ p.1.1.val ∧ p.1.1.val ≤ 64 := fun p hp => hG.auth hp
  rw [← rowsTo_all fun p hp => (hau p hp).1, tot_rows hG hl 64 (Nat.le_refl _)]
  have e1 := sumTo_all (fun p : PatV => p.1.1.val) (fun _ => 1) L hau
  have e2 := sumTo_all (fun p : PatV => p.1.1.val) (fun p => (patBytes p).length) L hau
  have ek := fun k => sumTo_all (fun p : PatV => p.1.1.val) (fun p => kindN k p.2.2) L hau
  have ev := sumTo_all (fun x : VertV => x.1.1.1.val) (fun x => if x.2.2.2.2 then 0 else 1) (vertsL L) fun x hx => hG.vauth1 hx
  have f1 : sumTo (fun a => (ofA L a).length) 64 = L.length := by
    rw [len_sum] at e1
    rw [← e1]
    exact sumTo_congr (fun a => (len_sum _).symm) 64
  have f8 : sumTo (fun a => aliveA (vertsL L) a) 64 = ((vertsL L).filter fun x => !x.2.2.2.2).length := by
    have g1 : ∀ V : List VertV, (V.map fun x => if x.2.2.2.2 then 0 else 1).sum = (V.filter fun x => !x.2.2.2.2).length := by
      intro V
      induction V with
      | nil => rfl
      | cons x V ih =>
        rw [List.map_cons, List.sum_cons, ih]
        cases hd : x.2.2.2.2
        · rw [List.filter_cons_of_pos (by rw [hd]; rfl), List.length_cons]; simp; omega
        · rw [List.filter_cons_of_neg (by rw [hd]; simp)]; simp
    rw [← g1, ← ev]
    refine sumTo_congr (fun a => ?_) 64
    rw [g1, List.filter_filter]
    unfold aliveA aliveB
    congr 1
    refine List.filter_congr fun x _ => ?_
    rw [Bool.and_comm]
  unfold sumR rowM
  rw [f1, f8]
  unfold bytesS kindS ofA
  rw [e2, ek 1, ek 2, ek 3, ek 4, ek 5]
  rfl
end Go.Proofs.YtdafiipedlglpaaGreatDoor

/- Together the rows are the graph: how many vertices, files, steps there are; no program in sight. -/
namespace Go.Proofs.YtdafiipedlglpaaGreatDoor

theorem next_putOk {v : List Int} {d : PidV} (hn : nextB v d = true) (ha : 1 ≤ d.1.val) : putOk v d.1.val ((d.2.val : Nat) : Int) = true := by
  unfold nextB at hn
  unfold putOk
  rw [Bool.and_eq_true, Bool.and_eq_true]
  rw [Bool.and_eq_true] at hn
  refine ⟨?_, hn⟩
  have : ¬ d.1.val = 0 := by omega
  simp [this]
theorem GrOk.vec_of {L : List PatV} (h : GrOk L) : ∀ a, 1 ≤ a → a ≤ 64 → ofV (vecL L) a = (((ofA L a).length : Nat) : Int) := by
  induction h with
  | nil =>
    intro a h1 h2
    unfold ofV vecL
    split
    · show (vec0).getD (a - 1) 0 = 0
      unfold vec0
      rw [List.getD_eq_getElem?_getD, List.getElem?_replicate]
      split <;> rfl
    · rfl
  | @snoc L p hL he ih =>
    intro a h1 h2
    obtain ⟨hb, _, hn, _, _⟩ := grE_zero he
    have hau := patB_author hb
    have ho := next_putOk hn hau.1
    have hi := putOk_iff ho
    rw [vecL_snoc]
    unfold putW putV
    rw [if_pos ho]
    by_cases e : p.1.1.val = a
    · subst e
      rw [ofV_set (vecL_ok L) hi.1, hi.2.2, ih _ hau.1 hau.2, ofA_snoc_eq, List.length_append]
      simp
    · rw [ofV_set_ne (vecL_ok L) hi.1 e, ih a h1 h2, ofA_snoc_ne e]
theorem GrOk.vec_tot {L : List PatV} (h : GrOk L) : totV (vecL L) = ((L.length : Nat) : Int) := by
  induction h with
  | nil => kernel_rfl
  | @snoc L p hL he ih =>
    obtain ⟨hb, _, hn, _, _⟩ := grE_zero he
    have hau := patB_author hb
    have ho := next_putOk hn hau.1
    have hi := putOk_iff ho
    have hlen := (vecL_ok L).1
    rw [vecL_snoc]
    unfold putW putV
    rw [if_pos ho, hi.2.2]
    have e : ofV (vecL L) p.1.1.val = (vecL L).getD (p.1.1.val - 1) 0 := by unfold ofV; rw [if_pos hi.1]
    unfold totV at ih ⊢
    rw [e, totTo_set (by omega) 64 (by omega), ih, if_pos (by omega), List.length_append]
    simp
theorem edges_count (p : PatV) : (edgesP p).length = kindN 4 p.2.2 := by
  unfold edgesP kindN
  induction p.2.2 with
  | nil => rfl
  | cons o l ih =>
    unfold edgeO at ih ⊢
    by_cases h : o.1.val = 4
    · rw [List.filterMap_cons_some (by rw [if_pos h]), List.filter_cons_of_pos (by simpa using h), List.length_cons, List.length_cons, ih]
    · rw [List.filterMap_cons_none (by rw [if_neg h]), List.filter_cons_of_neg (by simpa using h), ih]
theorem edges_le (L : List PatV) : (edgesL L).length ≤ kindS 4 L := by
  refine Nat.le_trans (setK_len _) ?_
  unfold edgesOf kindS
  rw [List.length_flatMap]
  rw [show (fun p => (edgesP p).length) = fun p => kindN 4 p.2.2 from funext edges_count]
  exact Nat.le_refl _
/-- ids of a patch, of which kinds one likes -/
theorem ids_count (p : PatV) (Q : VidV → Bool) (q : OpV → Bool) (hQ : ∀ (i : Nat) o, p.2.2[i]? = some o → makesO o = true → Q (vidOf p.1 ((i : Nat) : Int)) = q o) :
    ((idsP p).filter Q).length = (p.2.2.filter fun o => makesO o && q o).length := by
  have key : ∀ n, n ≤ p.2.2.length → (((List.range n).filterMap fun (i : Nat) => match p.2.2[i]? with | some o => if makesO o = true then some (vidOf p.1 ((i : Nat) : Int)) else none | none => none).filter Q).length = ((p.2.2.take n).filter fun o => makesO o && q o).length := by
    intro n
    induction n with
    | zero => intro _; rfl
    | succ n ih =>
      intro hn
      obtain ⟨o, ho⟩ : ∃ o, p.2.2[n]? = some o := ⟨_, List.getElem?_eq_getElem (by omega)⟩
      rw [List.range_succ, List.filterMap_append, List.filter_append, List.length_append, ih (by omega), List.take_add_one, ho, Option.toList_some, List.filter_append, List.length_append]
      congr 1
      by_cases hm : makesO o = true
      · have hq := hQ n o ho hm
        rw [List.filterMap_cons_some (b := vidOf p.1 ((n : Nat) : Int)) (by rw [ho]; exact if_pos hm), List.filterMap_nil]
        by_cases hb : q o = true
        · rw [List.filter_cons_of_pos (by rw [hq]; exact hb), List.filter_cons_of_pos (by rw [hm, hb]; rfl)]; rfl
        · rw [List.filter_cons_of_neg (by rw [hq]; exact hb), List.filter_cons_of_neg (by rw [hm]; simpa using hb)]; rfl
      · rw [List.filterMap_cons_none (by rw [ho]; exact if_neg hm), List.filterMap_nil, List.filter_cons_of_neg (by simp [hm])]
        rfl
  have h := key p.2.2.length (Nat.le_refl _)
  rw [List.take_length] at h
  exact h
theorem ids_at {p : PatV} {v : VidV} (h : v ∈ idsP p) : ∃ (i : Nat) (o : OpV), p.2.2[i]? = some o ∧ makesO o = true ∧ v = vidOf p.1 ((i : Nat) : Int) := by
  unfold idsP at h
  obtain ⟨i, _, hi⟩ := List.mem_filterMap.1 h
  cases ho : p.2.2[i]? with
  | none => rw [ho] at hi; cases hi
  | some o =>
    rw [ho] at hi
    by_cases hm : makesO o = true
    · simp only [hm, if_true] at hi
      exact ⟨i, o, ho, hm, by injection hi with e; exact e.symm⟩
    · simp only [hm] at hi
      cases hi
theorem ids_nodup (p : PatV) (h256 : p.2.2.length ≤ 256) : (idsP p).Nodup := by
  unfold idsP
  rw [List.Nodup, List.pairwise_filterMap]
  refine List.Pairwise.imp_of_mem ?_ (List.nodup_range (n := p.2.2.length))
  intro i j hi hj hne v hv v' hv' e
  have hi := List.mem_range.1 hi
  have hj := List.mem_range.1 hj
  have g : ∀ k : Nat, k < p.2.2.length → ∀ v, (match p.2.2[k]? with | some o => if makesO o = true then some (vidOf p.1 ((k : Nat) : Int)) else none | none => none) = some v → v.2.val = k := by
    intro k hk v hv
    obtain ⟨o, ho⟩ : ∃ o, p.2.2[k]? = some o := ⟨_, List.getElem?_eq_getElem hk⟩
    rw [ho] at hv
    by_cases hm : makesO o = true
    · simp only [hm, if_true] at hv
      injection hv with e
      rw [← e]
      exact vidOf_n (by omega)
    · simp only [hm] at hv
      cases hv
  have h1 := g i hi v hv
  have h2 := g j hj v' hv'
  subst e
  exact hne (h1.symm.trans h2)
theorem GrOk.ids_nodup {L : List PatV} (h : GrOk L) : (idsOf L).Nodup := by
  unfold idsOf
  rw [List.Nodup, List.pairwise_flatMap]
  refine ⟨fun p hp => Go.Proofs.YtdafiipedlglpaaGreatDoor.ids_nodup p (by have := h.few hp; omega), ?_⟩
  have hn := h.idx.nodup
  rw [List.Nodup, List.pairwise_map] at hn
  refine hn.imp ?_
  intro p q hpq v hv v' hv' e
  obtain ⟨i, o, _, _, e1⟩ := ids_at hv
  obtain ⟨j, o', _, _, e2⟩ := ids_at hv'
  subst e
  rw [e1] at e2
  exact hpq (congrArg (·.1) e2)
theorem rise_nodup {l : List VidV} (h : RiseK keyV l) : l.Nodup := h.imp fun {a b} hab e => by rw [e] at hab; exact absurd hab (Int.lt_irrefl _)
theorem GrOk.ids_perm {L : List PatV} (h : GrOk L) : (idsL L).Perm (idsOf L) := by
  refine (List.perm_ext_iff_of_nodup ?_ h.ids_nodup).2 fun v => ?_
  · exact rise_nodup (by unfold idsL; exact setK_rise keyV_inj _)
  · unfold idsL
    exact setK_mem keyV_inj _ _
theorem GrOk.kind_at {L : List PatV} (h : GrOk L) {p : PatV} (hp : p ∈ L) {i : Nat} {o : OpV} (ho : p.2.2[i]? = some o) (hm : makesO o = true) : (vertD L (vidOf p.1 ((i : Nat) : Int))).2.1 = o.1 := by
  have hi : i < 256 := by
    have h1 := (List.getElem?_eq_some_iff.1 ho).1
    have h2 := h.few hp
    omega
  have h1 : rawV L (vidOf p.1 ((i : Nat) : Int)) = some (rawO o (vidOf p.1 ((i : Nat) : Int))) := by
    rw [rawV_of h.idx.nodup hp rfl]
    exact rawP_get.2 ⟨rfl, o, by rw [vidOf_n hi]; exact ho, hm, rfl⟩
  unfold vertD vertV
  rw [h1]
  rfl
theorem count_kinds {L : List PatV} (h : GrOk L) (q : OpV → Bool) (Q : VertV → Bool) (hQ : ∀ (x : VertV) (o : OpV), x.2.1 = o.1 → Q x = q o) : ((vertsL L).filter Q).length = (L.map fun p => (p.2.2.filter fun o => makesO o && q o).length).sum := by
  unfold vertsL
  rw [List.filter_map, List.length_map, (h.ids_perm.filter _).length_eq]
  unfold idsOf
  rw [List.filter_flatMap, List.length_flatMap]
  congr 1
  refine List.map_congr_left fun p hp => ?_
  exact ids_count p _ q fun i o ho hm => hQ _ _ (h.kind_at hp ho hm)
theorem kind_split (l : List OpV) : (l.filter fun o => makesO o && true).length = kindN 1 l + kindN 2 l + kindN 3 l := by
  unfold kindN
  induction l with
  | nil => rfl
  | cons o l ih =>
    have e : makesO o = (decide (o.1.val = 1) || decide (o.1.val = 2) || decide (o.1.val = 3)) := by
      unfold makesO
      by_cases h1 : o.1.val = 1
      · simp [h1]
      · by_cases h2 : o.1.val = 2
        · simp [h2]
        · by_cases h3 : o.1.val = 3
          · simp [h3]
          · simp [h1, h2, h3]; omega
    rw [List.filter_cons, List.filter_cons, List.filter_cons, List.filter_cons]
    by_cases h1 : o.1.val = 1
    · simp [e, h1]; simp at ih; omega
    · by_cases h2 : o.1.val = 2
      · simp [e, h2]; simp at ih; omega
      · by_cases h3 : o.1.val = 3
        · simp [e, h3]; simp at ih; omega
        · simp [e, h1, h2, h3]; simp at ih; omega
theorem verts_count {L : List PatV} (h : GrOk L) : (vertsL L).length = kindS 1 L + kindS 2 L + kindS 3 L := by
  have h1 := count_kinds h (fun _ => true) (fun _ => true) fun _ _ _ => rfl
  rw [List.filter_eq_self.2 (fun _ _ => rfl)] at h1
  rw [h1]
  unfold kindS
  simp only [kind_split]
  clear h1 h
  induction L with
  | nil => rfl
  | cons p L ih => simp only [List.map_cons, List.sum_cons]; omega
theorem files_count {L : List PatV} (h : GrOk L) : (filesL L).length = kindS 1 L := by
  have h1 := count_kinds h (fun o => decide (o.1.val = 1)) (fun x => decide (x.2.1.val = 1)) fun x o e => by rw [e]
  unfold filesL
  rw [List.length_map, h1]
  unfold kindS kindN
  congr 1
  refine List.map_congr_left fun p _ => ?_
  congr 1
  refine List.filter_congr fun o _ => ?_
  unfold makesO
  by_cases h1 : o.1.val = 1
  · simp [h1]
  · simp [h1]
end Go.Proofs.YtdafiipedlglpaaGreatDoor

/- Together the rows are the graph: walked. -/
namespace Go.Proofs.YtdafiipedlglpaaGreatDoor
open Go.RowKit

theorem indexRows (b o n c k : Nat) (hk : k < n) (w : World) : (Instr.indexAt 85 (.slice (some ⟨b, o, none⟩) n c) (.int .i64 ((k : Nat) : Int))).run Tryz.prog w = .ok (.pointer (some ⟨b, o + k * 9, none⟩)) w := by
  have h0 : (0 : Int) ≤ (k : Int) := by omega
  have h1 : (k : Int) < (n : Int) := by omega
  simp [go_sem, h0, h1]
theorem fieldRow (g o : Nat) (i : Nat) (hi : i < 9) (w : World) : (Instr.fieldAt 93 (.pointer (some ⟨g, o, none⟩)) i).run Tryz.prog w = .ok (.pointer (some ⟨g, o + i, none⟩)) w := by
  match i, hi with
  | 0, _ => simp [go_sem]
  | 1, _ => simp [go_sem]
  | 2, _ => simp [go_sem]
  | 3, _ => simp [go_sem]
  | 4, _ => simp [go_sem]
  | 5, _ => simp [go_sem]
  | 6, _ => simp [go_sem]
  | 7, _ => simp [go_sem]
  | 8, _ => simp [go_sem]
theorem exIdxV {P : Program} {ρ : Operand → Value} {w : World} {d : Option Tmp} {ty s : TypeId} {pos : String} {after : Array Edge} {gd : Option (Nat × Bool)} {x y : Operand} {xv yv v : Value} (hx : ρ x = xv) (hy : ρ y = yv) (hr : (Instr.index s xv yv).run P w = .ok v w) : (execOp ρ ⟨d, .index s x y, ty, pos, after, gd⟩).run P w = .ok (.value v) w := by
  unfold execOp
  simp only [hx, hy, Sem.run_bind, hr, Result.andThen_ok, Sem.run_pure]
theorem exConv54 {P : Program} {ρ : Operand → Value} {w : World} {d : Option Tmp} {ty s t : TypeId} {pos : String} {after : Array Edge} {gd : Option (Nat × Bool)} {x : Operand} {xv v : Value} (hx : ρ x = xv) (hr : (convert s t xv).run P w = .ok v w) : (execOp ρ ⟨d, .convert s t x, ty, pos, after, gd⟩).run P w = .ok (.value v) w := by
  unfold execOp
  simp only [hx, Sem.run_bind, hr, Result.andThen_ok, Sem.run_pure]
theorem wpPure54 {P : Program} {Q : Exit → Act → World → Prop} {K : Act → World → Prop} {a : Act} {w : World} {d : Option Tmp} {op : Op} {ty : TypeId} {pos : String} {after : Array Edge} {gd : Option (Nat × Bool)} {v : Value} (h : (execOp a.eval ⟨d, op, ty, pos, after, gd⟩).run P w = .ok (.value v) w) (hk : K (a.put d v) w) : Oper.wp P ⟨d, op, ty, pos, after, gd⟩ a w K Q := by
  unfold Oper.wp
  rw [h]
  exact hk
theorem gt0_54 (i : Nat) (w : World) (h : 0 < i) : (binOp .gtr 3 (.int .i64 ((i : Nat) : Int)) (.int .i64 0)).run Tryz.prog w = .ok (.bool true) w := by simp [go_sem, h]
theorem gt1_54 (w : World) : (binOp .gtr 3 (.int .i64 ((0 : Nat) : Int)) (.int .i64 0)).run Tryz.prog w = .ok (.bool false) w := by kernel_rfl
theorem sub54 (i : Nat) (w : World) (h : 1 ≤ i) (hm : i ≤ 1000) : (binOp .sub 3 (.int .i64 ((i : Nat) : Int)) (.int .i64 1)).run Tryz.prog w = .ok (.int .i64 ((i - 1 : Nat) : Int)) w := by
  have e : IntKind.i64.wrap ((i : Int) - 1) = ((i - 1 : Nat) : Int) := by rw [IntWalk.i64_in _ (by omega)]; omega
  simp [go_sem, e]
theorem subU54 (i : Nat) (w : World) (h : 1 ≤ i) (hm : i ≤ 64) : (binOp .sub 5 (.int .u8 ((i : Nat) : Int)) (.int .u8 1)).run Tryz.prog w = .ok (.int .u8 ((i - 1 : Nat) : Int)) w := by
  have e : IntKind.u8.wrap ((i : Int) - 1) = ((i - 1 : Nat) : Int) := by rw [IntWalk.u8_in _ (by omega)]; omega
  simp [go_sem, e]
theorem geq54 (a b : Nat) (w : World) (h : a < b) : (binOp .geq 5 (.int .u8 ((a : Nat) : Int)) (.int .u8 ((b : Nat) : Int))).run Tryz.prog w = .ok (.bool false) w := by
  have h2 : ¬ b ≤ a := by omega
  simp [go_sem, h2]
theorem lss54 (a : Nat) (w : World) (h : 1 ≤ a) : (binOp .lss 5 (.int .u8 ((a : Nat) : Int)) (.int .u8 1)).run Tryz.prog w = .ok (.bool false) w := by
  have h2 : ¬ ((a : Int) < 1) := by omega
  simp [go_sem, h2]
theorem gtr54 (a : Nat) (w : World) (h : a ≤ 64) : (binOp .gtr 5 (.int .u8 ((a : Nat) : Int)) (.int .u8 64)).run Tryz.prog w = .ok (.bool false) w := by
  have h2 : ¬ ((64 : Int) < (a : Int)) := by omega
  simp [go_sem, h2]
theorem neq54 (z : Int) (w : World) : (binOp .neq 3 (.int .i64 z) (.int .i64 z)).run Tryz.prog w = .ok (.bool false) w := by simp [go_sem]
theorem eql54 (z : Nat) (w : World) (h : z ≠ 0) : (binOp .eql 3 (.int .i64 ((z : Nat) : Int)) (.int .i64 0)).run Tryz.prog w = .ok (.bool false) w := by
  have h2 : ¬ ((z : Int) = 0) := by omega
  simp [go_sem, h]
theorem eqI54 (z : Int) (w : World) : (binOp .eql 3 (.int .i64 z) (.int .i64 z)).run Tryz.prog w = .ok (.bool true) w := by simp [go_sem]
theorem eqU54 (w : World) : (binOp .eql 5 (.int .u8 0) (.int .u8 0)).run Tryz.prog w = .ok (.bool true) w := by kernel_rfl
theorem geI54 (a b : Nat) (w : World) (h : b ≤ a) : (binOp .geq 3 (.int .i64 ((a : Nat) : Int)) (.int .i64 ((b : Nat) : Int))).run Tryz.prog w = .ok (.bool true) w := by simp [go_sem, h]
theorem addN54 (a b : Nat) (w : World) (h : a + b ≤ 1000000000) : (binOp .add 3 (.int .i64 ((a : Nat) : Int)) (.int .i64 ((b : Nat) : Int))).run Tryz.prog w = .ok (.int .i64 ((a + b : Nat) : Int)) w := by
  have e : IntKind.i64.wrap ((a : Int) + (b : Int)) = ((a + b : Nat) : Int) := by rw [IntWalk.i64_in _ (by omega)]; omega
  simp [go_sem, e]
theorem convU16_54 (z : Nat) (w : World) (h : z ≤ 60000) : (convert 22 3 (.int .u16 ((z : Nat) : Int))).run Tryz.prog w = .ok (.int .i64 ((z : Nat) : Int)) w := by
  have e : IntKind.i64.wrap (z : Int) = (z : Int) := IntWalk.i64_in _ (by omega)
  simp [go_sem, e]
theorem index_vec54 (a : List Int) (ha : VecOk a) (k : Nat) (hk : k < 64) (w : World) : (Instr.index 24 (.agg (vecA a)) (.int .u8 k)).run Tryz.prog w = .ok (.int .u16 (a.getD k 0)) w := by
  have hl : k < a.length := by rw [ha.len]; exact hk
  have hv : (vecA a)[k]? = some (.int .u16 (a.getD k 0)) := vecA_get a k hl
  have hb : (0 : Int) ≤ (k : Int) ∧ (k : Int) < (64 : Nat) := by omega
  simp only [Instr.index, asIntOf, Sem.run_bind, Sem.run_pure, Result.andThen_ok, run_underlying under64]
  rw [if_pos hb]
  simp only [part, Sem.run_bind, sizeOf16, isAgg16, Result.andThen_ok, Bool.false_eq_true, if_false, Int.toNat_natCast, Nat.mul_one, hv, Sem.run_pure]
theorem indexVec54 (v : List Int) (hv : VecOk v) (a : Nat) (ha : 1 ≤ a) (ha2 : a ≤ 64) (w : World) : (Instr.index 24 (.agg (vecA v)) (.int .u8 ((a - 1 : Nat) : Int))).run Tryz.prog w = .ok (.int .u16 (ofV v a)) w := by
  rw [index_vec54 v hv (a - 1) (by omega) w]
  unfold ofV inV
  rw [if_pos (by simp; omega)]
theorem rowsC_at {L : List PatV} (hG : GrOk L) {i : Nat} {x : RowR} (h : (rowsC L)[i]? = some x) : ∃ a : Nat, 1 ≤ a ∧ a ≤ 64 ∧ x = rowC L a ∧ (ofA L a).length ≠ 0 := by
  have hm := List.mem_of_getElem? h
  unfold rowsC at hm
  obtain ⟨h1, h2⟩ := List.mem_filter.1 hm
  obtain ⟨a, ha, rfl⟩ := List.mem_map.1 h1
  have hne : (ofA L a).length ≠ 0 := by
    unfold hasR rowC rowM at h2
    simpa using h2
  obtain ⟨p, hp⟩ := List.exists_mem_of_length_pos (Nat.pos_of_ne_zero hne)
  have hp2 := List.mem_filter.1 hp
  have hau := hG.auth hp2.1
  have e : p.1.1.val = a := by simpa using hp2.2
  exact ⟨a, by omega, by omega, rfl, hne⟩
theorem rowsC_rise (L : List PatV) : (rowsC L).Pairwise fun x y => x.1 < y.1 := by
  unfold rowsC
  refine List.Pairwise.filter _ ?_
  rw [List.pairwise_map]
  refine List.pairwise_lt_range.imp ?_
  intro a b hab
  show ((a : Nat) : Int) < ((b : Nat) : Int)
  omega
theorem rowsC_next {L : List PatV} {i : Nat} {x y : RowR} (hi : 1 ≤ i) (hy : (rowsC L)[i - 1]? = some y) (hx : (rowsC L)[i]? = some x) : y.1 < x.1 := by
  have h := List.pairwise_iff_getElem.1 (rowsC_rise L)
  obtain ⟨h1, e1⟩ := List.getElem?_eq_some_iff.1 hy
  obtain ⟨h2, e2⟩ := List.getElem?_eq_some_iff.1 hx
  rw [← e1, ← e2]
  exact h _ _ h1 h2 (by omega)
theorem sl_row54 {w : World} {B b o n : Nat} {R : List RowR} (h : Sl w B 9 (some ⟨b, o, none⟩) n (R.flatMap encR)) (hn : R.length = n) {k : Nat} {x : RowR} (hx : R[k]? = some x) : w.rangeAt b (o + k * 9) (encR x) ∧ b < B := by
  have hk := (List.getElem?_eq_some_iff.1 hx).1
  obtain ⟨b', o', e, hb, hc⟩ := h.2 (by omega)
  simp only [Option.some.injEq, Addr.mk.injEq, and_true] at e
  obtain ⟨rfl, rfl⟩ := e
  refine ⟨fun j v hj => ?_, hb⟩
  have hj9 := (List.getElem?_eq_some_iff.1 hj).1
  rw [encR_len] at hj9
  have h2 := hc (k * 9 + j) (by omega)
  rw [flatMap_get encR R (fun x _ => encR_len x) k j hk hj9, (List.getElem?_eq_some_iff.1 hx).2] at h2
  rw [Nat.add_assoc, h2]
  exact hj
theorem rowsC_len54 (L : List PatV) : (rowsC L).length ≤ 65 := by
  unfold rowsC
  refine Nat.le_trans (List.length_filter_le _ _) ?_
  rw [List.length_map, List.length_range]
  exact Nat.le_refl _
set_option maxRecDepth 100000 in
set_option maxHeartbeats 16000000 in
theorem censusSums_walk (w : World) (l : List PatV) (A : Option Addr) (n c : Nat) (hm : n ≤ maxLen) (h : PatsAt w A n l) (_ : True) :
    Calls Tryz.prog 11 #[.slice A n c] w (RetB w (.bool true)) := by
  have H0 := Lib.hid h
  have hln := Lib.hid h.len
  clear h
  go_enter Tryz.func11, Tryz.ntmps11
  have HF := Lib.hid (few20_any l w A n c 14 H0.out hm)
  cases hf : fewsB l 14
  · rw [fewsN_false hf] at HF
    clear hf
    go_wp2_with fail
    refine HF.out.mono ?_
    rintro e w3 ⟨rfl, b3⟩
    have B3 := Lib.hid b3
    clear b3 HF
    go_wp2_with fail
    refine (works54 _).mono ?_
    rintro e w4 ⟨rfl, b4⟩
    have B4 := Lib.hid (B3.out.trans (b4.mono B3.out.size))
    clear b4
    go_wp2
    go_ret
    exact ⟨rfl, B4.out⟩
  · rw [fewsN_true hf] at HF
    have hn14 : n ≤ 20 := by
      unfold fewsB at hf
      rw [Bool.and_eq_true, decide_eq_true_eq] at hf
      have h1 := hf.1
      rw [H0.out.len] at h1
      omega
    clear hf hm
    go_wp2_with fail
    refine HF.out.mono ?_
    rintro e w3 ⟨rfl, b3⟩
    have B3 := Lib.hid b3
    clear b3 HF
    go_wp2_with fail
    refine (new20_any w3).mono ?_
    rintro e w4 ⟨F, g, rfl, hG, hF, b4⟩
    have hFw : Hid (∀ q, F q → w.heap.size ≤ q) := fun q e => Nat.le_trans B3.out.size (hF q e)
    have G4 := Lib.hid hG
    have B4 := Lib.hid (B3.out.trans (b4.mono B3.out.size))
    clear hG hF b4 B3
    go_wp2_with fail
    go_loopw [4] (fun iv wr => ∃ (k : Nat) (L : List PatV), k ≤ n ∧ iv = .int .i64 ((k : Nat) : Int) ∧ Hid (L = runG [] (l.take k)) ∧ Hid (GraphAt wr F g L) ∧ Hid (Below w.heap.size w wr)) (fun iv _ => n - (intOf iv).toNat)
    case atStart => exact ⟨0, [], Nat.zero_le _, rfl, rfl, G4.out, B4.out⟩
    case round =>
      clear G4 B4
      obtain ⟨k, L, hk, rfl, hL, G, B⟩ := hrel
      have hk0 : (0 : Int) ≤ (k : Int) := by omega
      by_cases hlt : k < n
      · have hlk : (k : Int) < (n : Int) := by omega
        obtain ⟨b, o, p, rp, rfl, hb, hp, pa, R⟩ := H0.out.at_ hlt
        have hi4 : (Tryz.prog.info? 64).map (·.size) = some rp.length := by rw [pa.len4]; exact infoPat
        have R := Lib.hid (rangeAt_below R B.out hb)
        have NL : Hid (grL L p = runG [] (l.take (k + 1))) := by rw [Hid, runG_snoc [] hp, ← hL.out]
        have PI : Hid (PatIn wr (fun q => q < w.heap.size) rp p) := pa.in_.ext B.out
        have HAP := Lib.hid (apply20_any G.out p rp PI.out (fun q e1 e2 => by have := hFw.out q e2; omega))
        clear pa hb hp PI
        go_wp2_with (refine wpList_load_mid rfl 64 _ (by rfl) b (o + k * 4) (by rfl) _ _ R.out underPat rfl hi4 ?_)
        refine HAP.out.mono ?_
        rintro e w6 ⟨rfl, kp, G6⟩
        have B6 := Lib.hid (B.out.trans (kp.below (fun q e => hFw.out q e) B.out.size))
        have G6 := Lib.hid G6
        clear kp HAP G B R
        go_wp2_with fail
        go_roundw
        case rel => exact ⟨k + 1, grL L p, by omega, by go_num, NL.out, G6.out, B6.out⟩
        case measure => simp [intOf]; omega
      · have hlk : ¬ (k : Int) < (n : Int) := by omega
        rw [List.take_of_length_le (by rw [hln.out]; omega)] at hL
        have hGO : Hid (GrOk L) := G.out.ok
        have hL20 : Hid (L.length ≤ 20) := by
          have h2 := runG_few54 l
          rw [hln.out] at h2
          rw [Hid, hL.out]; omega
        have HO := Lib.hid (of54_any l wr A n c (H0.out.ext B.out) hn14)
        rw [← hL.out] at HO
        obtain ⟨R, hR⟩ : ∃ R, R = rowsC L := ⟨_, rfl⟩
        obtain ⟨m, hmR⟩ : ∃ m, m = R.length := ⟨_, rfl⟩
        have hm65 : m ≤ 65 := by rw [hmR, hR]; exact rowsC_len54 _
        have HTO : Hid (totR R = rowM 0 L ((vertsL L).filter fun x => !x.2.2.2.2).length) := by rw [Hid, hR]; exact sum_rows hGO.out hL20.out
        unfold CenRet at HO
        rw [← hR, ← hmR] at HO
        replace hR := Lib.hid hR
        replace hmR := Lib.hid hmR
        go_wp2_with fail
        refine HO.out.mono ?_
        rintro e w4 ⟨A5, c5, rfl, b4, S4⟩
        have G4 := Lib.hid (G.out.ext b4)
        have B4 := Lib.hid (B.out.trans (b4.mono B.out.size))
        have S4 := Lib.hid S4
        have HT := Lib.hid (total54_any R w4 A5 c5 m hmR.out.symm (by omega) S4.out)
        rw [HTO.out] at HT
        clear b4 HO G B HTO
        -- the row of all
        go_wp2_with fail
        refine HT.out.mono ?_
        rintro e w5 ⟨rfl, b5⟩
        obtain ⟨T, hT⟩ : ∃ T, T = rowM 0 L ((vertsL L).filter fun x => !x.2.2.2.2).length := ⟨_, rfl⟩
        rw [← hT]
        replace hT := Lib.hid hT
        have KZ : Hid (Blk (w5.alloc (.cells (encR zeroR).toArray 93)) w5.heap.size 93 (encR zeroR).toArray) := Blk.new _ _ _
        have KN : Hid (Blk ((w5.alloc (.cells (encR zeroR).toArray 93)).setRow w5.heap.size (encR T).toArray) w5.heap.size 93 (encR T).toArray) := KZ.out.row _
        have BN : Hid (Below w5.heap.size w5 ((w5.alloc (.cells (encR zeroR).toArray 93)).setRow w5.heap.size (encR T).toArray)) := below_setRow (below_new w5 _) (Nat.le_refl _) _
        go_upto_region 10 with (first
          | (refine wpList_alloced (allocRow _) ?_)
          | (refine wpList_store_row rfl 93 _ _ (by rfl) w5.heap.size (encR T).toArray (by rfl) (by rfl) _ _ KZ.out infoRow rfl (all_oneCell_toArray (encR_one T)) ?_))
        have BB5 : Hid (Below w4.heap.size w4 ((w5.alloc (.cells (encR zeroR).toArray 93)).setRow w5.heap.size (encR T).toArray)) := b5.trans (BN.out.mono b5.size)
        generalize ((w5.alloc (.cells (encR zeroR).toArray 93)).setRow w5.heap.size (encR T).toArray) = w6 at *
        generalize w5.heap.size = g6 at *
        have G6 := Lib.hid (G4.out.ext BB5.out)
        have B6 := Lib.hid (B4.out.trans (BB5.out.mono B4.out.size))
        have S6 := Lib.hid (S4.out.up BB5.out (Nat.le_refl _))
        clear KZ BN HT b5 BB5 G4 B4 S4
        -- the vertices
        have HV := Lib.hid (verts20_any G6.out (by have := hL20.out; omega))
        have hVl : (vertsL L).length ≤ 80000 := vertsL_few hGO.out (by have := hL20.out; omega)
        go_wp2_with fail
        refine HV.out.mono ?_
        rintro e w7 ⟨v, rfl, own, b7⟩
        obtain ⟨V, hV⟩ : ∃ V, V = vertsL L := ⟨_, rfl⟩
        rw [← hV] at own hVl
        obtain ⟨mv, hmv⟩ : ∃ m, m = V.length := ⟨_, rfl⟩
        rw [← hmv] at own hVl
        obtain ⟨AV, cV, rfl, -, va⟩ := VertsAt.of_own own hmv.symm
        replace hmv := Lib.hid hmv
        replace hV := Lib.hid hV
        have VA := Lib.hid va
        have K6 := Lib.hid (KN.out.ext b7)
        have G7 := Lib.hid (G6.out.ext b7)
        have B7 := Lib.hid (B6.out.trans (b7.mono B6.out.size))
        have S7 := Lib.hid (S6.out.up b7 (Nat.le_refl _))
        clear KN b7 own va HV G6 B6 S6
        go_wp2_with fail
        go_loop [8, 9] (fun av iv => ∃ j : Nat, j ≤ mv ∧ iv = .int .i64 ((j : Nat) : Int) ∧ av = .int .i64 ((((V.take j).filter fun x => !x.2.2.2.2).length : Nat) : Int)) (fun _ iv => mv - (intOf iv).toNat)
        case atStart => exact ⟨0, Nat.zero_le _, rfl, rfl⟩
        case round =>
          obtain ⟨j, hj, rfl, rfl⟩ := hrel
          have hj0 : (0 : Int) ≤ (j : Int) := by omega
          by_cases hjt : j < mv
          · have hjk : (j : Int) < (mv : Int) := by omega
            obtain ⟨bv, ov, x, rfl, hbv, hx, hr⟩ := VA.out.at_ hjt
            have q8 : w7.cell? ⟨bv, ov + j * 9 + 8, none⟩ = some (.bool x.2.2.2.2) := hr 8 _ rfl
            have VS : Hid (V.take (j + 1) = V.take j ++ [x]) := by rw [Hid, List.take_add_one, hx]; rfl
            have hcb : ((V.take j).filter fun x => !x.2.2.2.2).length ≤ j := Nat.le_trans (List.length_filter_le _ _) (by rw [List.length_take]; omega)
            obtain ⟨q, hq⟩ : ∃ q, q = ((V.take j).filter fun x => !x.2.2.2.2).length := ⟨_, rfl⟩
            rw [← hq] at hcb ⊢
            replace hq := Lib.hid hq
            clear hr hx hbv
            cases hd : x.2.2.2.2
            · rw [hd] at q8
              have N : Hid (((V.take (j + 1)).filter fun x => !x.2.2.2.2).length = q + 1) := by rw [Hid, VS.out, List.filter_append, List.length_append, ← hq.out, List.filter_cons_of_pos (by rw [hd]; rfl)]; rfl
              clear hd VS
              go_wp2_with fail
              go_round
              case rel => exact ⟨j + 1, by omega, by go_num, by rw [N.out]; go_num⟩
              case measure => simp [intOf]; omega
            · rw [hd] at q8
              have N : Hid (((V.take (j + 1)).filter fun x => !x.2.2.2.2).length = q) := by rw [Hid, VS.out, List.filter_append, List.length_append, ← hq.out, List.filter_cons_of_neg (by rw [hd]; simp)]; rfl
              clear hd VS
              go_wp2_with fail
              go_round
              case rel => exact ⟨j + 1, by omega, by go_num, by rw [N.out]⟩
              case measure => simp [intOf]; omega
          · have hjk : ¬ (j : Int) < (mv : Int) := by omega
            rw [List.take_of_length_le (by rw [← hmv.out]; omega), hV.out]
            obtain ⟨al, hal⟩ : ∃ al, al = ((vertsL L).filter fun x => !x.2.2.2.2).length := ⟨_, rfl⟩
            rw [← hal] at hT ⊢
            clear hal
            go_wp2_with fail
            have hcV : ∀ args u, (callFunc 54 args).run Tryz.prog u = .ok (.enter 54 args) u := enters_of Tryz.func54 (by kernel_rfl) rfl
            have hcT : ∀ args u, (callFunc 55 args).run Tryz.prog u = .ok (.enter 55 args) u := enters_of Tryz.func55 (by kernel_rfl) rfl
            have hcF : ∀ args u, (callFunc 56 args).run Tryz.prog u = .ok (.enter 56 args) u := enters_of Tryz.func56 (by kernel_rfl) rfl
            have hcE : ∀ args u, (callFunc 57 args).run Tryz.prog u = .ok (.enter 57 args) u := enters_of Tryz.func57 (by kernel_rfl) rfl
            have hcW : ∀ args u, (callFunc 46 args).run Tryz.prog u = .ok (.enter 46 args) u := enters_of Tryz.func46 (by kernel_rfl) rfl
            go_loopw [10] (fun iv ws => ∃ i : Nat, i ≤ m ∧ iv = .int .i64 ((i : Nat) : Int) ∧ Hid (Below w7.heap.size w7 ws)) (fun iv _ => m - (intOf iv).toNat)
            case atStart => exact ⟨0, Nat.zero_le _, rfl, Below.refl _ _⟩
            case round =>
              obtain ⟨i, hi, rfl, B⟩ := hrel
              have hi0 : (0 : Int) ≤ (i : Int) := by omega
              have GM := Lib.hid (G7.out.ext B.out).mem
              have HVC : Hid (∀ u, Below wr.heap.size wr u → Calls Tryz.prog 54 #[.pointer (some ⟨g, 0, none⟩)] u (RetB u (.agg (vecA (vecL L))))) := fun u hu => vec20_any ((G7.out.ext B.out).ext hu).mem
              by_cases hlt : i < m
              · have hlk : (i : Int) < (m : Int) := by omega
                obtain ⟨x, hx⟩ : ∃ x, R[i]? = some x := ⟨_, List.getElem?_eq_getElem (by rw [← hmR.out]; exact hlt)⟩
                obtain ⟨xa, hxa1, hxa64, hxe, hxne⟩ := rowsC_at hGO.out (by rw [← hR.out]; exact hx)
                obtain ⟨b5, o5, rfl, -, -⟩ := S7.out.2 (by omega)
                obtain ⟨xp, hxpe⟩ : ∃ n, n = (ofA L xa).length := ⟨_, rfl⟩
                rw [← hxpe] at hxne
                have hxp : xp ≠ 0 := hxne
                have hxp20 : xp ≤ 20 := by have h1 := ofA_len L xa; have := hL20.out; omega
                obtain ⟨RX, hb5⟩ := sl_row54 S7.out hmR.out.symm hx
                have YX : Hid (∀ u, Below wr.heap.size wr u → u.cell? ⟨b5, o5 + i * 9, none⟩ = some (.int .u8 (xa : Int))) := fun u hu => (rangeAt_below (rangeAt_below RX B.out hb5) hu (Nat.lt_of_lt_of_le hb5 B.out.size)) 0 _ (by rw [hxe]; rfl)
                have YP : Hid (∀ u, Below wr.heap.size wr u → u.cell? ⟨b5, o5 + i * 9 + 1, none⟩ = some (.int .i64 (xp : Int))) := fun u hu => (rangeAt_below (rangeAt_below RX B.out hb5) hu (Nat.lt_of_lt_of_le hb5 B.out.size)) 1 _ (by rw [hxe, hxpe]; rfl)
                have VIX : Hid (∀ u : World, (Instr.index 24 (.agg (vecA (vecL L))) (.int .u8 ((xa - 1 : Nat) : Int))).run Tryz.prog u = .ok (.int .u16 (xp : Int)) u) := fun u => by
                  have h1 := indexVec54 (vecL L) (vecL_ok L) xa hxa1 hxa64 u
                  rw [hGO.out.vec_of xa hxa1 hxa64, ← hxpe] at h1
                  exact h1
                have VCV : Hid (∀ u : World, (convert 22 3 (.int .u16 (xp : Int))).run Tryz.prog u = .ok (.int .i64 (xp : Int)) u) := fun u => convU16_54 xp u (by omega)
                clear hxpe hxne
                by_cases hpos : 0 < i
                · have hi1 : 1 ≤ i := hpos
                  have hj1 : i - 1 < m := by omega
                  obtain ⟨y, hy⟩ : ∃ y, R[i - 1]? = some y := ⟨_, List.getElem?_eq_getElem (by rw [← hmR.out]; omega)⟩
                  obtain ⟨ya, -, -, hye, -⟩ := rowsC_at hGO.out (by rw [← hR.out]; exact hy)
                  have hyx : ya < xa := by
                    have h1 := rowsC_next hi1 (by rw [← hR.out]; exact hy) (by rw [← hR.out]; exact hx)
                    rw [hxe, hye] at h1
                    have h2 : ((ya : Nat) : Int) < ((xa : Nat) : Int) := h1
                    omega
                  have RY := (sl_row54 S7.out hmR.out.symm hy).1
                  have YY : Hid (∀ u, Below wr.heap.size wr u → u.cell? ⟨b5, o5 + (i - 1) * 9, none⟩ = some (.int .u8 (ya : Int))) := fun u hu => (rangeAt_below (rangeAt_below RY B.out hb5) hu (Nat.lt_of_lt_of_le hb5 B.out.size)) 0 _ (by rw [hye]; rfl)
                  have T0 : Hid (∀ u : World, (binOp .gtr 3 (.int .i64 ((i : Nat) : Int)) (.int .i64 0)).run Tryz.prog u = .ok (.bool true) u) := fun u => gt0_54 i u hpos
                  clear hx hy RX RY hxe hye GM
                  go_wp2_with fail
                  refine wp_region_held (S := fun w' => Below wr.heap.size wr w') mixed54m ?_
                  change wpAnyH _ _ _ _ _ _ _ _ wr.drew
                  have BD : Hid (Below wr.heap.size wr wr.drew) := (Below.refl _ _).drew
                  generalize wr.drew = wd at *
                  simp only [List.size_toArray, List.length_cons, List.length_nil]
                  refine takeV (i := 0) (d := 54) (v := .int .i64 ((i : Nat) : Int)) rfl (by kernel_rfl) (by kernel_rfl) (by kernel_rfl) (fun _ _ _ h => h) rfl (fun _ _ => exMove (v := .int .i64 ((i : Nat) : Int)) rfl) BD.out ?_
                  simp only [Act.put, List.setIfInBounds_toArray, List.set_cons_zero, List.set_cons_succ]
                  refine takeV (i := 1) (d := 55) (v := .bool true) rfl (by kernel_rfl) (by kernel_rfl) (by kernel_rfl) (fun _ _ _ h => h) rfl (fun w' _ => exBin rfl rfl (by rfl) (T0.out w')) BD.out ?_
                  simp only [Act.put, List.setIfInBounds_toArray, List.set_cons_zero, List.set_cons_succ]
                  refine takeV (i := 2) (d := 56) (v := .bool true) rfl (by kernel_rfl) (by kernel_rfl) (by kernel_rfl) (fun _ _ _ h => h) rfl (fun _ _ => exMove (v := .bool true) rfl) BD.out ?_
                  simp only [Act.put, List.setIfInBounds_toArray, List.set_cons_zero, List.set_cons_succ]
                  refine takeV (i := 3) (d := 57) (v := .slice (some ⟨b5, o5, none⟩) m c5) rfl (by kernel_rfl) (by kernel_rfl) (by kernel_rfl) (fun _ _ _ h => h) rfl (fun _ _ => exMove (v := .slice (some ⟨b5, o5, none⟩) m c5) rfl) BD.out ?_
                  simp only [Act.put, List.setIfInBounds_toArray, List.set_cons_zero, List.set_cons_succ]
                  refine takeV (i := 4) (d := 58) (v := .int .i64 ((i : Nat) : Int)) rfl (by kernel_rfl) (by kernel_rfl) (by kernel_rfl) (fun _ _ _ h => h) rfl (fun _ _ => exMove (v := .int .i64 ((i : Nat) : Int)) rfl) BD.out ?_
                  simp only [Act.put, List.setIfInBounds_toArray, List.set_cons_zero, List.set_cons_succ]
                  refine takeV (i := 5) (d := 59) (v := .int .i64 ((i - 1 : Nat) : Int)) rfl (by kernel_rfl) (by kernel_rfl) (by kernel_rfl) (fun _ _ _ h => h) rfl (fun w' _ => exBin rfl rfl (by rfl) (sub54 i w' hi1 (by omega))) BD.out ?_
                  simp only [Act.put, List.setIfInBounds_toArray, List.set_cons_zero, List.set_cons_succ]
                  refine takeV (i := 6) (d := 60) (v := .pointer (some ⟨b5, o5 + (i - 1) * 9, none⟩)) rfl (by kernel_rfl) (by kernel_rfl) (by kernel_rfl) (fun _ _ _ h => h) rfl (fun w' _ => exIndex rfl rfl (indexRows b5 o5 m c5 (i - 1) hj1 w')) BD.out ?_
                  simp only [Act.put, List.setIfInBounds_toArray, List.set_cons_zero, List.set_cons_succ]
                  refine takeV (i := 7) (d := 61) (v := .pointer (some ⟨b5, o5 + (i - 1) * 9, none⟩)) rfl (by kernel_rfl) (by kernel_rfl) (by kernel_rfl) (fun _ _ _ h => h) rfl (fun w' _ => exField rfl (fieldRow b5 (o5 + (i - 1) * 9) 0 (by omega) w')) BD.out ?_
                  simp only [Act.put, List.setIfInBounds_toArray, List.set_cons_zero, List.set_cons_succ]
                  refine takeV (i := 8) (d := 62) (v := .int .u8 (ya : Int)) rfl (by kernel_rfl) (by kernel_rfl) (by kernel_rfl) (fun _ _ _ h => h) rfl (fun w' h => exLoad rfl (loadU8 b5 (o5 + (i - 1) * 9) w' (ya : Int) (YY.out w' h))) BD.out ?_
                  simp only [Act.put, List.setIfInBounds_toArray, List.set_cons_zero, List.set_cons_succ]
                  refine takeV (i := 9) (d := 63) (v := .slice (some ⟨b5, o5, none⟩) m c5) rfl (by kernel_rfl) (by kernel_rfl) (by kernel_rfl) (fun _ _ _ h => h) rfl (fun _ _ => exMove (v := .slice (some ⟨b5, o5, none⟩) m c5) rfl) BD.out ?_
                  simp only [Act.put, List.setIfInBounds_toArray, List.set_cons_zero, List.set_cons_succ]
                  refine takeV (i := 10) (d := 64) (v := .int .i64 ((i : Nat) : Int)) rfl (by kernel_rfl) (by kernel_rfl) (by kernel_rfl) (fun _ _ _ h => h) rfl (fun _ _ => exMove (v := .int .i64 ((i : Nat) : Int)) rfl) BD.out ?_
                  simp only [Act.put, List.setIfInBounds_toArray, List.set_cons_zero, List.set_cons_succ]
                  refine takeV (i := 11) (d := 65) (v := .pointer (some ⟨b5, o5 + i * 9, none⟩)) rfl (by kernel_rfl) (by kernel_rfl) (by kernel_rfl) (fun _ _ _ h => h) rfl (fun w' _ => exIndex rfl rfl (indexRows b5 o5 m c5 i hlt w')) BD.out ?_
                  simp only [Act.put, List.setIfInBounds_toArray, List.set_cons_zero, List.set_cons_succ]
                  refine takeV (i := 12) (d := 66) (v := .pointer (some ⟨b5, o5 + i * 9, none⟩)) rfl (by kernel_rfl) (by kernel_rfl) (by kernel_rfl) (fun _ _ _ h => h) rfl (fun w' _ => exField rfl (fieldRow b5 (o5 + i * 9) 0 (by omega) w')) BD.out ?_
                  simp only [Act.put, List.setIfInBounds_toArray, List.set_cons_zero, List.set_cons_succ]
                  refine takeV (i := 13) (d := 67) (v := .int .u8 (xa : Int)) rfl (by kernel_rfl) (by kernel_rfl) (by kernel_rfl) (fun _ _ _ h => h) rfl (fun w' h => exLoad rfl (loadU8 b5 (o5 + i * 9) w' (xa : Int) (YX.out w' h))) BD.out ?_
                  simp only [Act.put, List.setIfInBounds_toArray, List.set_cons_zero, List.set_cons_succ]
                  refine takeV (i := 14) (d := 68) (v := .bool false) rfl (by kernel_rfl) (by kernel_rfl) (by kernel_rfl) (fun _ _ _ h => h) rfl (fun w' _ => exBin rfl rfl (by rfl) (geq54 ya xa w' hyx)) BD.out ?_
                  simp only [Act.put, List.setIfInBounds_toArray, List.set_cons_zero, List.set_cons_succ]
                  refine takeV (i := 15) (d := 69) (v := .bool false) rfl (by kernel_rfl) (by kernel_rfl) (by kernel_rfl) (fun _ _ _ h => h) rfl (fun _ _ => exPickT (v := .bool false) rfl rfl) BD.out ?_
                  simp only [Act.put, List.setIfInBounds_toArray, List.set_cons_zero, List.set_cons_succ]
                  refine takeV (i := 16) (d := 70) (v := .bool false) rfl (by kernel_rfl) (by kernel_rfl) (by kernel_rfl) (fun _ _ _ h => h) rfl (fun _ _ => exMove (v := .bool false) rfl) BD.out ?_
                  simp only [Act.put, List.setIfInBounds_toArray, List.set_cons_zero, List.set_cons_succ]
                  refine takeV (i := 17) (d := 71) (v := .slice (some ⟨b5, o5, none⟩) m c5) rfl (by kernel_rfl) (by kernel_rfl) (by kernel_rfl) (fun _ _ _ h => h) rfl (fun _ _ => exMove (v := .slice (some ⟨b5, o5, none⟩) m c5) rfl) BD.out ?_
                  simp only [Act.put, List.setIfInBounds_toArray, List.set_cons_zero, List.set_cons_succ]
                  refine takeV (i := 18) (d := 72) (v := .int .i64 ((i : Nat) : Int)) rfl (by kernel_rfl) (by kernel_rfl) (by kernel_rfl) (fun _ _ _ h => h) rfl (fun _ _ => exMove (v := .int .i64 ((i : Nat) : Int)) rfl) BD.out ?_
                  simp only [Act.put, List.setIfInBounds_toArray, List.set_cons_zero, List.set_cons_succ]
                  refine takeV (i := 19) (d := 73) (v := .pointer (some ⟨b5, o5 + i * 9, none⟩)) rfl (by kernel_rfl) (by kernel_rfl) (by kernel_rfl) (fun _ _ _ h => h) rfl (fun w' _ => exIndex rfl rfl (indexRows b5 o5 m c5 i hlt w')) BD.out ?_
                  simp only [Act.put, List.setIfInBounds_toArray, List.set_cons_zero, List.set_cons_succ]
                  refine takeV (i := 20) (d := 74) (v := .pointer (some ⟨b5, o5 + i * 9, none⟩)) rfl (by kernel_rfl) (by kernel_rfl) (by kernel_rfl) (fun _ _ _ h => h) rfl (fun w' _ => exField rfl (fieldRow b5 (o5 + i * 9) 0 (by omega) w')) BD.out ?_
                  simp only [Act.put, List.setIfInBounds_toArray, List.set_cons_zero, List.set_cons_succ]
                  refine takeV (i := 21) (d := 75) (v := .int .u8 (xa : Int)) rfl (by kernel_rfl) (by kernel_rfl) (by kernel_rfl) (fun _ _ _ h => h) rfl (fun w' h => exLoad rfl (loadU8 b5 (o5 + i * 9) w' (xa : Int) (YX.out w' h))) BD.out ?_
                  simp only [Act.put, List.setIfInBounds_toArray, List.set_cons_zero, List.set_cons_succ]
                  refine takeV (i := 22) (d := 76) (v := .bool false) rfl (by kernel_rfl) (by kernel_rfl) (by kernel_rfl) (fun _ _ _ h => h) rfl (fun w' _ => exBin rfl rfl (by rfl) (lss54 xa w' hxa1)) BD.out ?_
                  simp only [Act.put, List.setIfInBounds_toArray, List.set_cons_zero, List.set_cons_succ]
                  refine takeV (i := 23) (d := 77) (v := .bool false) rfl (by kernel_rfl) (by kernel_rfl) (by kernel_rfl) (fun _ _ _ h => h) rfl (fun _ _ => exPickF (v := .bool false) rfl rfl) BD.out ?_
                  simp only [Act.put, List.setIfInBounds_toArray, List.set_cons_zero, List.set_cons_succ]
                  refine takeV (i := 24) (d := 78) (v := .bool false) rfl (by kernel_rfl) (by kernel_rfl) (by kernel_rfl) (fun _ _ _ h => h) rfl (fun _ _ => exMove (v := .bool false) rfl) BD.out ?_
                  simp only [Act.put, List.setIfInBounds_toArray, List.set_cons_zero, List.set_cons_succ]
                  refine takeV (i := 25) (d := 79) (v := .slice (some ⟨b5, o5, none⟩) m c5) rfl (by kernel_rfl) (by kernel_rfl) (by kernel_rfl) (fun _ _ _ h => h) rfl (fun _ _ => exMove (v := .slice (some ⟨b5, o5, none⟩) m c5) rfl) BD.out ?_
                  simp only [Act.put, List.setIfInBounds_toArray, List.set_cons_zero, List.set_cons_succ]
                  refine takeV (i := 26) (d := 80) (v := .int .i64 ((i : Nat) : Int)) rfl (by kernel_rfl) (by kernel_rfl) (by kernel_rfl) (fun _ _ _ h => h) rfl (fun _ _ => exMove (v := .int .i64 ((i : Nat) : Int)) rfl) BD.out ?_
                  simp only [Act.put, List.setIfInBounds_toArray, List.set_cons_zero, List.set_cons_succ]
                  refine takeV (i := 27) (d := 81) (v := .pointer (some ⟨b5, o5 + i * 9, none⟩)) rfl (by kernel_rfl) (by kernel_rfl) (by kernel_rfl) (fun _ _ _ h => h) rfl (fun w' _ => exIndex rfl rfl (indexRows b5 o5 m c5 i hlt w')) BD.out ?_
                  simp only [Act.put, List.setIfInBounds_toArray, List.set_cons_zero, List.set_cons_succ]
                  refine takeV (i := 28) (d := 82) (v := .pointer (some ⟨b5, o5 + i * 9, none⟩)) rfl (by kernel_rfl) (by kernel_rfl) (by kernel_rfl) (fun _ _ _ h => h) rfl (fun w' _ => exField rfl (fieldRow b5 (o5 + i * 9) 0 (by omega) w')) BD.out ?_
                  simp only [Act.put, List.setIfInBounds_toArray, List.set_cons_zero, List.set_cons_succ]
                  refine takeV (i := 29) (d := 83) (v := .int .u8 (xa : Int)) rfl (by kernel_rfl) (by kernel_rfl) (by kernel_rfl) (fun _ _ _ h => h) rfl (fun w' h => exLoad rfl (loadU8 b5 (o5 + i * 9) w' (xa : Int) (YX.out w' h))) BD.out ?_
                  simp only [Act.put, List.setIfInBounds_toArray, List.set_cons_zero, List.set_cons_succ]
                  refine takeV (i := 30) (d := 84) (v := .bool false) rfl (by kernel_rfl) (by kernel_rfl) (by kernel_rfl) (fun _ _ _ h => h) rfl (fun w' _ => exBin rfl rfl (by rfl) (gtr54 xa w' hxa64)) BD.out ?_
                  simp only [Act.put, List.setIfInBounds_toArray, List.set_cons_zero, List.set_cons_succ]
                  refine takeV (i := 31) (d := 85) (v := .bool false) rfl (by kernel_rfl) (by kernel_rfl) (by kernel_rfl) (fun _ _ _ h => h) rfl (fun _ _ => exPickF (v := .bool false) rfl rfl) BD.out ?_
                  simp only [Act.put, List.setIfInBounds_toArray, List.set_cons_zero, List.set_cons_succ]
                  refine takeV (i := 32) (d := 86) (v := .bool false) rfl (by kernel_rfl) (by kernel_rfl) (by kernel_rfl) (fun _ _ _ h => h) rfl (fun _ _ => exMove (v := .bool false) rfl) BD.out ?_
                  simp only [Act.put, List.setIfInBounds_toArray, List.set_cons_zero, List.set_cons_succ]
                  refine takeV (i := 33) (d := 87) (v := .pointer (some ⟨g, 0, none⟩)) rfl (by kernel_rfl) (by kernel_rfl) (by kernel_rfl) (fun _ _ _ h => h) rfl (fun _ _ => exMove (v := .pointer (some ⟨g, 0, none⟩)) rfl) BD.out ?_
                  simp only [Act.put, List.setIfInBounds_toArray, List.set_cons_zero, List.set_cons_succ]
                  refine takeV (i := 35) (d := 89) (v := .slice (some ⟨b5, o5, none⟩) m c5) rfl (by kernel_rfl) (by kernel_rfl) (by kernel_rfl) (fun _ _ _ h => h) rfl (fun _ _ => exMove (v := .slice (some ⟨b5, o5, none⟩) m c5) rfl) BD.out ?_
                  simp only [Act.put, List.setIfInBounds_toArray, List.set_cons_zero, List.set_cons_succ]
                  refine takeV (i := 36) (d := 90) (v := .int .i64 ((i : Nat) : Int)) rfl (by kernel_rfl) (by kernel_rfl) (by kernel_rfl) (fun _ _ _ h => h) rfl (fun _ _ => exMove (v := .int .i64 ((i : Nat) : Int)) rfl) BD.out ?_
                  simp only [Act.put, List.setIfInBounds_toArray, List.set_cons_zero, List.set_cons_succ]
                  refine takeV (i := 37) (d := 91) (v := .pointer (some ⟨b5, o5 + i * 9, none⟩)) rfl (by kernel_rfl) (by kernel_rfl) (by kernel_rfl) (fun _ _ _ h => h) rfl (fun w' _ => exIndex rfl rfl (indexRows b5 o5 m c5 i hlt w')) BD.out ?_
                  simp only [Act.put, List.setIfInBounds_toArray, List.set_cons_zero, List.set_cons_succ]
                  refine takeV (i := 38) (d := 92) (v := .pointer (some ⟨b5, o5 + i * 9, none⟩)) rfl (by kernel_rfl) (by kernel_rfl) (by kernel_rfl) (fun _ _ _ h => h) rfl (fun w' _ => exField rfl (fieldRow b5 (o5 + i * 9) 0 (by omega) w')) BD.out ?_
                  simp only [Act.put, List.setIfInBounds_toArray, List.set_cons_zero, List.set_cons_succ]
                  refine takeV (i := 39) (d := 93) (v := .int .u8 (xa : Int)) rfl (by kernel_rfl) (by kernel_rfl) (by kernel_rfl) (fun _ _ _ h => h) rfl (fun w' h => exLoad rfl (loadU8 b5 (o5 + i * 9) w' (xa : Int) (YX.out w' h))) BD.out ?_
                  simp only [Act.put, List.setIfInBounds_toArray, List.set_cons_zero, List.set_cons_succ]
                  refine takeV (i := 40) (d := 94) (v := .int .u8 ((xa - 1 : Nat) : Int)) rfl (by kernel_rfl) (by kernel_rfl) (by kernel_rfl) (fun _ _ _ h => h) rfl (fun w' _ => exBin rfl rfl (by rfl) (subU54 xa w' hxa1 hxa64)) BD.out ?_
                  simp only [Act.put, List.setIfInBounds_toArray, List.set_cons_zero, List.set_cons_succ]
                  refine takeV (i := 43) (d := 97) (v := .slice (some ⟨b5, o5, none⟩) m c5) rfl (by kernel_rfl) (by kernel_rfl) (by kernel_rfl) (fun _ _ _ h => h) rfl (fun _ _ => exMove (v := .slice (some ⟨b5, o5, none⟩) m c5) rfl) BD.out ?_
                  simp only [Act.put, List.setIfInBounds_toArray, List.set_cons_zero, List.set_cons_succ]
                  refine takeV (i := 44) (d := 98) (v := .int .i64 ((i : Nat) : Int)) rfl (by kernel_rfl) (by kernel_rfl) (by kernel_rfl) (fun _ _ _ h => h) rfl (fun _ _ => exMove (v := .int .i64 ((i : Nat) : Int)) rfl) BD.out ?_
                  simp only [Act.put, List.setIfInBounds_toArray, List.set_cons_zero, List.set_cons_succ]
                  refine takeV (i := 45) (d := 99) (v := .pointer (some ⟨b5, o5 + i * 9, none⟩)) rfl (by kernel_rfl) (by kernel_rfl) (by kernel_rfl) (fun _ _ _ h => h) rfl (fun w' _ => exIndex rfl rfl (indexRows b5 o5 m c5 i hlt w')) BD.out ?_
                  simp only [Act.put, List.setIfInBounds_toArray, List.set_cons_zero, List.set_cons_succ]
                  refine takeV (i := 46) (d := 100) (v := .pointer (some ⟨b5, o5 + i * 9 + 1, none⟩)) rfl (by kernel_rfl) (by kernel_rfl) (by kernel_rfl) (fun _ _ _ h => h) rfl (fun w' _ => exField rfl (fieldRow b5 (o5 + i * 9) 1 (by omega) w')) BD.out ?_
                  simp only [Act.put, List.setIfInBounds_toArray, List.set_cons_zero, List.set_cons_succ]
                  refine takeV (i := 47) (d := 101) (v := .int .i64 (xp : Int)) rfl (by kernel_rfl) (by kernel_rfl) (by kernel_rfl) (fun _ _ _ h => h) rfl (fun w' h => exLoad rfl (loadI54b b5 (o5 + i * 9 + 1) w' (xp : Int) (YP.out w' h))) BD.out ?_
                  simp only [Act.put, List.setIfInBounds_toArray, List.set_cons_zero, List.set_cons_succ]
                  refine wpAnyH_all (rs := [34]) (by kernel_rfl) (by simp) ?_
                  intro i hi
                  simp only [List.mem_cons, List.not_mem_nil, or_false] at hi
                  subst hi
                  refine wpOp_of rfl rfl (wp_called (args := #[.pointer (some ⟨g, 0, none⟩)]) hcV (by simp only [List.map_toArray, List.map_cons, List.map_nil]; rfl) (HVC.out wd BD.out) ?_)
                  rintro e w_1 ⟨rfl, h_2⟩
                  refine ⟨_, rfl, ext_trans BD.out h_2, ?_⟩
                  simp only [Act.put, List.setIfInBounds_toArray, List.set_cons_zero, List.set_cons_succ]
                  have B_3 := Lib.hid (ext_trans BD.out h_2)
                  clear BD
                  clear h_2
                  refine takeV (i := 41) (d := 95) (v := .int .u16 (xp : Int)) rfl (by kernel_rfl) (by kernel_rfl) (by kernel_rfl) (fun _ _ _ h => h) rfl (fun w' _ => exIdxV rfl rfl (VIX.out w')) B_3.out ?_
                  simp only [Act.put, List.setIfInBounds_toArray, List.set_cons_zero, List.set_cons_succ]
                  refine wpAnyH_all (rs := [42]) (by kernel_rfl) (by simp) ?_
                  intro i hi
                  simp only [List.mem_cons, List.not_mem_nil, or_false] at hi
                  subst hi
                  refine wpOp_of rfl rfl (wpPure54 (exConv54 rfl (VCV.out w_1)) ?_)
                  refine ⟨B_3.out, ?_⟩
                  simp only [Act.put, List.setIfInBounds_toArray, List.set_cons_zero, List.set_cons_succ]
                  refine takeV (i := 48) (d := 102) (v := .bool false) rfl (by kernel_rfl) (by kernel_rfl) (by kernel_rfl) (fun _ _ _ h => h) rfl (fun w' _ => exBin rfl rfl (by rfl) (neq54 _ w')) B_3.out ?_
                  simp only [Act.put, List.setIfInBounds_toArray, List.set_cons_zero, List.set_cons_succ]
                  refine takeV (i := 49) (d := 103) (v := .bool false) rfl (by kernel_rfl) (by kernel_rfl) (by kernel_rfl) (fun _ _ _ h => h) rfl (fun _ _ => exPickF (v := .bool false) rfl rfl) B_3.out ?_
                  simp only [Act.put, List.setIfInBounds_toArray, List.set_cons_zero, List.set_cons_succ]
                  refine takeV (i := 50) (d := 104) (v := .bool false) rfl (by kernel_rfl) (by kernel_rfl) (by kernel_rfl) (fun _ _ _ h => h) rfl (fun _ _ => exMove (v := .bool false) rfl) B_3.out ?_
                  simp only [Act.put, List.setIfInBounds_toArray, List.set_cons_zero, List.set_cons_succ]
                  refine takeV (i := 51) (d := 105) (v := .slice (some ⟨b5, o5, none⟩) m c5) rfl (by kernel_rfl) (by kernel_rfl) (by kernel_rfl) (fun _ _ _ h => h) rfl (fun _ _ => exMove (v := .slice (some ⟨b5, o5, none⟩) m c5) rfl) B_3.out ?_
                  simp only [Act.put, List.setIfInBounds_toArray, List.set_cons_zero, List.set_cons_succ]
                  refine takeV (i := 52) (d := 106) (v := .int .i64 ((i : Nat) : Int)) rfl (by kernel_rfl) (by kernel_rfl) (by kernel_rfl) (fun _ _ _ h => h) rfl (fun _ _ => exMove (v := .int .i64 ((i : Nat) : Int)) rfl) B_3.out ?_
                  simp only [Act.put, List.setIfInBounds_toArray, List.set_cons_zero, List.set_cons_succ]
                  refine takeV (i := 53) (d := 107) (v := .pointer (some ⟨b5, o5 + i * 9, none⟩)) rfl (by kernel_rfl) (by kernel_rfl) (by kernel_rfl) (fun _ _ _ h => h) rfl (fun w' _ => exIndex rfl rfl (indexRows b5 o5 m c5 i hlt w')) B_3.out ?_
                  simp only [Act.put, List.setIfInBounds_toArray, List.set_cons_zero, List.set_cons_succ]
                  refine takeV (i := 54) (d := 108) (v := .pointer (some ⟨b5, o5 + i * 9 + 1, none⟩)) rfl (by kernel_rfl) (by kernel_rfl) (by kernel_rfl) (fun _ _ _ h => h) rfl (fun w' _ => exField rfl (fieldRow b5 (o5 + i * 9) 1 (by omega) w')) B_3.out ?_
                  simp only [Act.put, List.setIfInBounds_toArray, List.set_cons_zero, List.set_cons_succ]
                  refine takeV (i := 55) (d := 109) (v := .int .i64 (xp : Int)) rfl (by kernel_rfl) (by kernel_rfl) (by kernel_rfl) (fun _ _ _ h => h) rfl (fun w' h => exLoad rfl (loadI54b b5 (o5 + i * 9 + 1) w' (xp : Int) (YP.out w' h))) B_3.out ?_
                  simp only [Act.put, List.setIfInBounds_toArray, List.set_cons_zero, List.set_cons_succ]
                  refine takeV (i := 56) (d := 110) (v := .bool false) rfl (by kernel_rfl) (by kernel_rfl) (by kernel_rfl) (fun _ _ _ h => h) rfl (fun w' _ => exBin rfl rfl (by rfl) (eql54 xp w' hxp)) B_3.out ?_
                  simp only [Act.put, List.setIfInBounds_toArray, List.set_cons_zero, List.set_cons_succ]
                  refine takeV (i := 57) (d := 111) (v := .bool false) rfl (by kernel_rfl) (by kernel_rfl) (by kernel_rfl) (fun _ _ _ h => h) rfl (fun _ _ => exPickF (v := .bool false) rfl rfl) B_3.out ?_
                  simp only [Act.put, List.setIfInBounds_toArray, List.set_cons_zero, List.set_cons_succ]
                  refine wpAnyH_done (by kernel_rfl) ?_ _
                  have BF := Lib.hid (B.out.trans (B_3.out.mono B.out.size))
                  clear B_3 B YX YP
                  go_wp2_with fail
                  go_roundw
                  case rel => exact ⟨i + 1, by omega, by go_num, BF.out⟩
                  case measure => simp [intOf]; omega
                · have hi00 : i = 0 := by omega
                  have T0 : Hid (∀ u : World, (binOp .gtr 3 (.int .i64 ((i : Nat) : Int)) (.int .i64 0)).run Tryz.prog u = .ok (.bool false) u) := fun u => by rw [hi00]; exact gt1_54 u
                  clear hx RX hxe GM hpos
                  replace hi00 := Lib.hid hi00
                  go_wp2_with fail
                  refine wp_region_held (S := fun w' => Below wr.heap.size wr w') mixed54m ?_
                  change wpAnyH _ _ _ _ _ _ _ _ wr.drew
                  have BD : Hid (Below wr.heap.size wr wr.drew) := (Below.refl _ _).drew
                  generalize wr.drew = wd at *
                  simp only [List.size_toArray, List.length_cons, List.length_nil]
                  refine takeV (i := 0) (d := 54) (v := .int .i64 ((i : Nat) : Int)) rfl (by kernel_rfl) (by kernel_rfl) (by kernel_rfl) (fun _ _ _ h => h) rfl (fun _ _ => exMove (v := .int .i64 ((i : Nat) : Int)) rfl) BD.out ?_
                  simp only [Act.put, List.setIfInBounds_toArray, List.set_cons_zero, List.set_cons_succ]
                  refine takeV (i := 1) (d := 55) (v := .bool false) rfl (by kernel_rfl) (by kernel_rfl) (by kernel_rfl) (fun _ _ _ h => h) rfl (fun w' _ => exBin rfl rfl (by rfl) (T0.out w')) BD.out ?_
                  simp only [Act.put, List.setIfInBounds_toArray, List.set_cons_zero, List.set_cons_succ]
                  refine takeV (i := 2) (d := 56) (v := .bool false) rfl (by kernel_rfl) (by kernel_rfl) (by kernel_rfl) (fun _ _ _ h => h) rfl (fun _ _ => exMove (v := .bool false) rfl) BD.out ?_
                  simp only [Act.put, List.setIfInBounds_toArray, List.set_cons_zero, List.set_cons_succ]
                  refine takeSkip (i := 3) (d := 57) rfl (by kernel_rfl) (by kernel_rfl) (by kernel_rfl) (fun _ _ _ h => h) rfl BD.out ?_
                  simp only [Act.put, List.setIfInBounds_toArray, List.set_cons_zero, List.set_cons_succ]
                  refine takeSkip (i := 4) (d := 58) rfl (by kernel_rfl) (by kernel_rfl) (by kernel_rfl) (fun _ _ _ h => h) rfl BD.out ?_
                  simp only [Act.put, List.setIfInBounds_toArray, List.set_cons_zero, List.set_cons_succ]
                  refine takeSkip (i := 5) (d := 59) rfl (by kernel_rfl) (by kernel_rfl) (by kernel_rfl) (fun _ _ _ h => h) rfl BD.out ?_
                  simp only [Act.put, List.setIfInBounds_toArray, List.set_cons_zero, List.set_cons_succ]
                  refine takeSkip (i := 6) (d := 60) rfl (by kernel_rfl) (by kernel_rfl) (by kernel_rfl) (fun _ _ _ h => h) rfl BD.out ?_
                  simp only [Act.put, List.setIfInBounds_toArray, List.set_cons_zero, List.set_cons_succ]
                  refine takeSkip (i := 7) (d := 61) rfl (by kernel_rfl) (by kernel_rfl) (by kernel_rfl) (fun _ _ _ h => h) rfl BD.out ?_
                  simp only [Act.put, List.setIfInBounds_toArray, List.set_cons_zero, List.set_cons_succ]
                  refine takeSkip (i := 8) (d := 62) rfl (by kernel_rfl) (by kernel_rfl) (by kernel_rfl) (fun _ _ _ h => h) rfl BD.out ?_
                  simp only [Act.put, List.setIfInBounds_toArray, List.set_cons_zero, List.set_cons_succ]
                  refine takeSkip (i := 9) (d := 63) rfl (by kernel_rfl) (by kernel_rfl) (by kernel_rfl) (fun _ _ _ h => h) rfl BD.out ?_
                  simp only [Act.put, List.setIfInBounds_toArray, List.set_cons_zero, List.set_cons_succ]
                  refine takeSkip (i := 10) (d := 64) rfl (by kernel_rfl) (by kernel_rfl) (by kernel_rfl) (fun _ _ _ h => h) rfl BD.out ?_
                  simp only [Act.put, List.setIfInBounds_toArray, List.set_cons_zero, List.set_cons_succ]
                  refine takeSkip (i := 11) (d := 65) rfl (by kernel_rfl) (by kernel_rfl) (by kernel_rfl) (fun _ _ _ h => h) rfl BD.out ?_
                  simp only [Act.put, List.setIfInBounds_toArray, List.set_cons_zero, List.set_cons_succ]
                  refine takeSkip (i := 12) (d := 66) rfl (by kernel_rfl) (by kernel_rfl) (by kernel_rfl) (fun _ _ _ h => h) rfl BD.out ?_
                  simp only [Act.put, List.setIfInBounds_toArray, List.set_cons_zero, List.set_cons_succ]
                  refine takeSkip (i := 13) (d := 67) rfl (by kernel_rfl) (by kernel_rfl) (by kernel_rfl) (fun _ _ _ h => h) rfl BD.out ?_
                  simp only [Act.put, List.setIfInBounds_toArray, List.set_cons_zero, List.set_cons_succ]
                  refine takeSkip (i := 14) (d := 68) rfl (by kernel_rfl) (by kernel_rfl) (by kernel_rfl) (fun _ _ _ h => h) rfl BD.out ?_
                  simp only [Act.put, List.setIfInBounds_toArray, List.set_cons_zero, List.set_cons_succ]
                  refine takeV (i := 15) (d := 69) (v := .bool false) rfl (by kernel_rfl) (by kernel_rfl) (by kernel_rfl) (fun _ _ _ h => h) rfl (fun _ _ => exPickF (v := .bool false) rfl rfl) BD.out ?_
                  simp only [Act.put, List.setIfInBounds_toArray, List.set_cons_zero, List.set_cons_succ]
                  refine takeV (i := 16) (d := 70) (v := .bool false) rfl (by kernel_rfl) (by kernel_rfl) (by kernel_rfl) (fun _ _ _ h => h) rfl (fun _ _ => exMove (v := .bool false) rfl) BD.out ?_
                  simp only [Act.put, List.setIfInBounds_toArray, List.set_cons_zero, List.set_cons_succ]
                  refine takeV (i := 17) (d := 71) (v := .slice (some ⟨b5, o5, none⟩) m c5) rfl (by kernel_rfl) (by kernel_rfl) (by kernel_rfl) (fun _ _ _ h => h) rfl (fun _ _ => exMove (v := .slice (some ⟨b5, o5, none⟩) m c5) rfl) BD.out ?_
                  simp only [Act.put, List.setIfInBounds_toArray, List.set_cons_zero, List.set_cons_succ]
                  refine takeV (i := 18) (d := 72) (v := .int .i64 ((i : Nat) : Int)) rfl (by kernel_rfl) (by kernel_rfl) (by kernel_rfl) (fun _ _ _ h => h) rfl (fun _ _ => exMove (v := .int .i64 ((i : Nat) : Int)) rfl) BD.out ?_
                  simp only [Act.put, List.setIfInBounds_toArray, List.set_cons_zero, List.set_cons_succ]
                  refine takeV (i := 19) (d := 73) (v := .pointer (some ⟨b5, o5 + i * 9, none⟩)) rfl (by kernel_rfl) (by kernel_rfl) (by kernel_rfl) (fun _ _ _ h => h) rfl (fun w' _ => exIndex rfl rfl (indexRows b5 o5 m c5 i hlt w')) BD.out ?_
                  simp only [Act.put, List.setIfInBounds_toArray, List.set_cons_zero, List.set_cons_succ]
                  refine takeV (i := 20) (d := 74) (v := .pointer (some ⟨b5, o5 + i * 9, none⟩)) rfl (by kernel_rfl) (by kernel_rfl) (by kernel_rfl) (fun _ _ _ h => h) rfl (fun w' _ => exField rfl (fieldRow b5 (o5 + i * 9) 0 (by omega) w')) BD.out ?_
                  simp only [Act.put, List.setIfInBounds_toArray, List.set_cons_zero, List.set_cons_succ]
                  refine takeV (i := 21) (d := 75) (v := .int .u8 (xa : Int)) rfl (by kernel_rfl) (by kernel_rfl) (by kernel_rfl) (fun _ _ _ h => h) rfl (fun w' h => exLoad rfl (loadU8 b5 (o5 + i * 9) w' (xa : Int) (YX.out w' h))) BD.out ?_
                  simp only [Act.put, List.setIfInBounds_toArray, List.set_cons_zero, List.set_cons_succ]
                  refine takeV (i := 22) (d := 76) (v := .bool false) rfl (by kernel_rfl) (by kernel_rfl) (by kernel_rfl) (fun _ _ _ h => h) rfl (fun w' _ => exBin rfl rfl (by rfl) (lss54 xa w' hxa1)) BD.out ?_
                  simp only [Act.put, List.setIfInBounds_toArray, List.set_cons_zero, List.set_cons_succ]
                  refine takeV (i := 23) (d := 77) (v := .bool false) rfl (by kernel_rfl) (by kernel_rfl) (by kernel_rfl) (fun _ _ _ h => h) rfl (fun _ _ => exPickF (v := .bool false) rfl rfl) BD.out ?_
                  simp only [Act.put, List.setIfInBounds_toArray, List.set_cons_zero, List.set_cons_succ]
                  refine takeV (i := 24) (d := 78) (v := .bool false) rfl (by kernel_rfl) (by kernel_rfl) (by kernel_rfl) (fun _ _ _ h => h) rfl (fun _ _ => exMove (v := .bool false) rfl) BD.out ?_
                  simp only [Act.put, List.setIfInBounds_toArray, List.set_cons_zero, List.set_cons_succ]
                  refine takeV (i := 25) (d := 79) (v := .slice (some ⟨b5, o5, none⟩) m c5) rfl (by kernel_rfl) (by kernel_rfl) (by kernel_rfl) (fun _ _ _ h => h) rfl (fun _ _ => exMove (v := .slice (some ⟨b5, o5, none⟩) m c5) rfl) BD.out ?_
                  simp only [Act.put, List.setIfInBounds_toArray, List.set_cons_zero, List.set_cons_succ]
                  refine takeV (i := 26) (d := 80) (v := .int .i64 ((i : Nat) : Int)) rfl (by kernel_rfl) (by kernel_rfl) (by kernel_rfl) (fun _ _ _ h => h) rfl (fun _ _ => exMove (v := .int .i64 ((i : Nat) : Int)) rfl) BD.out ?_
                  simp only [Act.put, List.setIfInBounds_toArray, List.set_cons_zero, List.set_cons_succ]
                  refine takeV (i := 27) (d := 81) (v := .pointer (some ⟨b5, o5 + i * 9, none⟩)) rfl (by kernel_rfl) (by kernel_rfl) (by kernel_rfl) (fun _ _ _ h => h) rfl (fun w' _ => exIndex rfl rfl (indexRows b5 o5 m c5 i hlt w')) BD.out ?_
                  simp only [Act.put, List.setIfInBounds_toArray, List.set_cons_zero, List.set_cons_succ]
                  refine takeV (i := 28) (d := 82) (v := .pointer (some ⟨b5, o5 + i * 9, none⟩)) rfl (by kernel_rfl) (by kernel_rfl) (by kernel_rfl) (fun _ _ _ h => h) rfl (fun w' _ => exField rfl (fieldRow b5 (o5 + i * 9) 0 (by omega) w')) BD.out ?_
                  simp only [Act.put, List.setIfInBounds_toArray, List.set_cons_zero, List.set_cons_succ]
                  refine takeV (i := 29) (d := 83) (v := .int .u8 (xa : Int)) rfl (by kernel_rfl) (by kernel_rfl) (by kernel_rfl) (fun _ _ _ h => h) rfl (fun w' h => exLoad rfl (loadU8 b5 (o5 + i * 9) w' (xa : Int) (YX.out w' h))) BD.out ?_
                  simp only [Act.put, List.setIfInBounds_toArray, List.set_cons_zero, List.set_cons_succ]
                  refine takeV (i := 30) (d := 84) (v := .bool false) rfl (by kernel_rfl) (by kernel_rfl) (by kernel_rfl) (fun _ _ _ h => h) rfl (fun w' _ => exBin rfl rfl (by rfl) (gtr54 xa w' hxa64)) BD.out ?_
                  simp only [Act.put, List.setIfInBounds_toArray, List.set_cons_zero, List.set_cons_succ]
                  refine takeV (i := 31) (d := 85) (v := .bool false) rfl (by kernel_rfl) (by kernel_rfl) (by kernel_rfl) (fun _ _ _ h => h) rfl (fun _ _ => exPickF (v := .bool false) rfl rfl) BD.out ?_
                  simp only [Act.put, List.setIfInBounds_toArray, List.set_cons_zero, List.set_cons_succ]
                  refine takeV (i := 32) (d := 86) (v := .bool false) rfl (by kernel_rfl) (by kernel_rfl) (by kernel_rfl) (fun _ _ _ h => h) rfl (fun _ _ => exMove (v := .bool false) rfl) BD.out ?_
                  simp only [Act.put, List.setIfInBounds_toArray, List.set_cons_zero, List.set_cons_succ]
                  refine takeV (i := 33) (d := 87) (v := .pointer (some ⟨g, 0, none⟩)) rfl (by kernel_rfl) (by kernel_rfl) (by kernel_rfl) (fun _ _ _ h => h) rfl (fun _ _ => exMove (v := .pointer (some ⟨g, 0, none⟩)) rfl) BD.out ?_
                  simp only [Act.put, List.setIfInBounds_toArray, List.set_cons_zero, List.set_cons_succ]
                  refine takeV (i := 35) (d := 89) (v := .slice (some ⟨b5, o5, none⟩) m c5) rfl (by kernel_rfl) (by kernel_rfl) (by kernel_rfl) (fun _ _ _ h => h) rfl (fun _ _ => exMove (v := .slice (some ⟨b5, o5, none⟩) m c5) rfl) BD.out ?_
                  simp only [Act.put, List.setIfInBounds_toArray, List.set_cons_zero, List.set_cons_succ]
                  refine takeV (i := 36) (d := 90) (v := .int .i64 ((i : Nat) : Int)) rfl (by kernel_rfl) (by kernel_rfl) (by kernel_rfl) (fun _ _ _ h => h) rfl (fun _ _ => exMove (v := .int .i64 ((i : Nat) : Int)) rfl) BD.out ?_
                  simp only [Act.put, List.setIfInBounds_toArray, List.set_cons_zero, List.set_cons_succ]
                  refine takeV (i := 37) (d := 91) (v := .pointer (some ⟨b5, o5 + i * 9, none⟩)) rfl (by kernel_rfl) (by kernel_rfl) (by kernel_rfl) (fun _ _ _ h => h) rfl (fun w' _ => exIndex rfl rfl (indexRows b5 o5 m c5 i hlt w')) BD.out ?_
                  simp only [Act.put, List.setIfInBounds_toArray, List.set_cons_zero, List.set_cons_succ]
                  refine takeV (i := 38) (d := 92) (v := .pointer (some ⟨b5, o5 + i * 9, none⟩)) rfl (by kernel_rfl) (by kernel_rfl) (by kernel_rfl) (fun _ _ _ h => h) rfl (fun w' _ => exField rfl (fieldRow b5 (o5 + i * 9) 0 (by omega) w')) BD.out ?_
                  simp only [Act.put, List.setIfInBounds_toArray, List.set_cons_zero, List.set_cons_succ]
                  refine takeV (i := 39) (d := 93) (v := .int .u8 (xa : Int)) rfl (by kernel_rfl) (by kernel_rfl) (by kernel_rfl) (fun _ _ _ h => h) rfl (fun w' h => exLoad rfl (loadU8 b5 (o5 + i * 9) w' (xa : Int) (YX.out w' h))) BD.out ?_
                  simp only [Act.put, List.setIfInBounds_toArray, List.set_cons_zero, List.set_cons_succ]
                  refine takeV (i := 40) (d := 94) (v := .int .u8 ((xa - 1 : Nat) : Int)) rfl (by kernel_rfl) (by kernel_rfl) (by kernel_rfl) (fun _ _ _ h => h) rfl (fun w' _ => exBin rfl rfl (by rfl) (subU54 xa w' hxa1 hxa64)) BD.out ?_
                  simp only [Act.put, List.setIfInBounds_toArray, List.set_cons_zero, List.set_cons_succ]
                  refine takeV (i := 43) (d := 97) (v := .slice (some ⟨b5, o5, none⟩) m c5) rfl (by kernel_rfl) (by kernel_rfl) (by kernel_rfl) (fun _ _ _ h => h) rfl (fun _ _ => exMove (v := .slice (some ⟨b5, o5, none⟩) m c5) rfl) BD.out ?_
                  simp only [Act.put, List.setIfInBounds_toArray, List.set_cons_zero, List.set_cons_succ]
                  refine takeV (i := 44) (d := 98) (v := .int .i64 ((i : Nat) : Int)) rfl (by kernel_rfl) (by kernel_rfl) (by kernel_rfl) (fun _ _ _ h => h) rfl (fun _ _ => exMove (v := .int .i64 ((i : Nat) : Int)) rfl) BD.out ?_
                  simp only [Act.put, List.setIfInBounds_toArray, List.set_cons_zero, List.set_cons_succ]
                  refine takeV (i := 45) (d := 99) (v := .pointer (some ⟨b5, o5 + i * 9, none⟩)) rfl (by kernel_rfl) (by kernel_rfl) (by kernel_rfl) (fun _ _ _ h => h) rfl (fun w' _ => exIndex rfl rfl (indexRows b5 o5 m c5 i hlt w')) BD.out ?_
                  simp only [Act.put, List.setIfInBounds_toArray, List.set_cons_zero, List.set_cons_succ]
                  refine takeV (i := 46) (d := 100) (v := .pointer (some ⟨b5, o5 + i * 9 + 1, none⟩)) rfl (by kernel_rfl) (by kernel_rfl) (by kernel_rfl) (fun _ _ _ h => h) rfl (fun w' _ => exField rfl (fieldRow b5 (o5 + i * 9) 1 (by omega) w')) BD.out ?_
                  simp only [Act.put, List.setIfInBounds_toArray, List.set_cons_zero, List.set_cons_succ]
                  refine takeV (i := 47) (d := 101) (v := .int .i64 (xp : Int)) rfl (by kernel_rfl) (by kernel_rfl) (by kernel_rfl) (fun _ _ _ h => h) rfl (fun w' h => exLoad rfl (loadI54b b5 (o5 + i * 9 + 1) w' (xp : Int) (YP.out w' h))) BD.out ?_
                  simp only [Act.put, List.setIfInBounds_toArray, List.set_cons_zero, List.set_cons_succ]
                  refine wpAnyH_all (rs := [34]) (by kernel_rfl) (by simp) ?_
                  intro i hi
                  simp only [List.mem_cons, List.not_mem_nil, or_false] at hi
                  subst hi
                  refine wpOp_of rfl rfl (wp_called (args := #[.pointer (some ⟨g, 0, none⟩)]) hcV (by simp only [List.map_toArray, List.map_cons, List.map_nil]; rfl) (HVC.out wd BD.out) ?_)
                  rintro e w_1 ⟨rfl, h_2⟩
                  refine ⟨_, rfl, ext_trans BD.out h_2, ?_⟩
                  simp only [Act.put, List.setIfInBounds_toArray, List.set_cons_zero, List.set_cons_succ]
                  have B_3 := Lib.hid (ext_trans BD.out h_2)
                  clear BD
                  clear h_2
                  refine takeV (i := 41) (d := 95) (v := .int .u16 (xp : Int)) rfl (by kernel_rfl) (by kernel_rfl) (by kernel_rfl) (fun _ _ _ h => h) rfl (fun w' _ => exIdxV rfl rfl (VIX.out w')) B_3.out ?_
                  simp only [Act.put, List.setIfInBounds_toArray, List.set_cons_zero, List.set_cons_succ]
                  refine wpAnyH_all (rs := [42]) (by kernel_rfl) (by simp) ?_
                  intro i hi
                  simp only [List.mem_cons, List.not_mem_nil, or_false] at hi
                  subst hi
                  refine wpOp_of rfl rfl (wpPure54 (exConv54 rfl (VCV.out w_1)) ?_)
                  refine ⟨B_3.out, ?_⟩
                  simp only [Act.put, List.setIfInBounds_toArray, List.set_cons_zero, List.set_cons_succ]
                  refine takeV (i := 48) (d := 102) (v := .bool false) rfl (by kernel_rfl) (by kernel_rfl) (by kernel_rfl) (fun _ _ _ h => h) rfl (fun w' _ => exBin rfl rfl (by rfl) (neq54 _ w')) B_3.out ?_
                  simp only [Act.put, List.setIfInBounds_toArray, List.set_cons_zero, List.set_cons_succ]
                  refine takeV (i := 49) (d := 103) (v := .bool false) rfl (by kernel_rfl) (by kernel_rfl) (by kernel_rfl) (fun _ _ _ h => h) rfl (fun _ _ => exPickF (v := .bool false) rfl rfl) B_3.out ?_
                  simp only [Act.put, List.setIfInBounds_toArray, List.set_cons_zero, List.set_cons_succ]
                  refine takeV (i := 50) (d := 104) (v := .bool false) rfl (by kernel_rfl) (by kernel_rfl) (by kernel_rfl) (fun _ _ _ h => h) rfl (fun _ _ => exMove (v := .bool false) rfl) B_3.out ?_
                  simp only [Act.put, List.setIfInBounds_toArray, List.set_cons_zero, List.set_cons_succ]
                  refine takeV (i := 51) (d := 105) (v := .slice (some ⟨b5, o5, none⟩) m c5) rfl (by kernel_rfl) (by kernel_rfl) (by kernel_rfl) (fun _ _ _ h => h) rfl (fun _ _ => exMove (v := .slice (some ⟨b5, o5, none⟩) m c5) rfl) B_3.out ?_
                  simp only [Act.put, List.setIfInBounds_toArray, List.set_cons_zero, List.set_cons_succ]
                  refine takeV (i := 52) (d := 106) (v := .int .i64 ((i : Nat) : Int)) rfl (by kernel_rfl) (by kernel_rfl) (by kernel_rfl) (fun _ _ _ h => h) rfl (fun _ _ => exMove (v := .int .i64 ((i : Nat) : Int)) rfl) B_3.out ?_
                  simp only [Act.put, List.setIfInBounds_toArray, List.set_cons_zero, List.set_cons_succ]
                  refine takeV (i := 53) (d := 107) (v := .pointer (some ⟨b5, o5 + i * 9, none⟩)) rfl (by kernel_rfl) (by kernel_rfl) (by kernel_rfl) (fun _ _ _ h => h) rfl (fun w' _ => exIndex rfl rfl (indexRows b5 o5 m c5 i hlt w')) B_3.out ?_
                  simp only [Act.put, List.setIfInBounds_toArray, List.set_cons_zero, List.set_cons_succ]
                  refine takeV (i := 54) (d := 108) (v := .pointer (some ⟨b5, o5 + i * 9 + 1, none⟩)) rfl (by kernel_rfl) (by kernel_rfl) (by kernel_rfl) (fun _ _ _ h => h) rfl (fun w' _ => exField rfl (fieldRow b5 (o5 + i * 9) 1 (by omega) w')) B_3.out ?_
                  simp only [Act.put, List.setIfInBounds_toArray, List.set_cons_zero, List.set_cons_succ]
                  refine takeV (i := 55) (d := 109) (v := .int .i64 (xp : Int)) rfl (by kernel_rfl) (by kernel_rfl) (by kernel_rfl) (fun _ _ _ h => h) rfl (fun w' h => exLoad rfl (loadI54b b5 (o5 + i * 9 + 1) w' (xp : Int) (YP.out w' h))) B_3.out ?_
                  simp only [Act.put, List.setIfInBounds_toArray, List.set_cons_zero, List.set_cons_succ]
                  refine takeV (i := 56) (d := 110) (v := .bool false) rfl (by kernel_rfl) (by kernel_rfl) (by kernel_rfl) (fun _ _ _ h => h) rfl (fun w' _ => exBin rfl rfl (by rfl) (eql54 xp w' hxp)) B_3.out ?_
                  simp only [Act.put, List.setIfInBounds_toArray, List.set_cons_zero, List.set_cons_succ]
                  refine takeV (i := 57) (d := 111) (v := .bool false) rfl (by kernel_rfl) (by kernel_rfl) (by kernel_rfl) (fun _ _ _ h => h) rfl (fun _ _ => exPickF (v := .bool false) rfl rfl) B_3.out ?_
                  simp only [Act.put, List.setIfInBounds_toArray, List.set_cons_zero, List.set_cons_succ]
                  refine wpAnyH_done (by kernel_rfl) ?_ _
                  have BF := Lib.hid (B.out.trans (B_3.out.mono B.out.size))
                  clear B_3 B YX YP
                  go_wp2_with fail
                  go_roundw
                  case rel => exact ⟨i + 1, by omega, by go_num, BF.out⟩
                  case measure => simp [intOf]; omega
              · have hlk : ¬ (i : Int) < (m : Int) := by omega
                have hvc := verts_count hGO.out
                have hfc := files_count hGO.out
                have hec := edges_le L
                have hvt := hGO.out.vec_tot
                rw [← hV.out, ← hmv.out] at hvc
                obtain ⟨pl, hpl⟩ : ∃ n, n = L.length := ⟨_, rfl⟩
                obtain ⟨f1, hf1⟩ : ∃ n, n = kindS 1 L := ⟨_, rfl⟩
                obtain ⟨f2, hf2⟩ : ∃ n, n = kindS 2 L := ⟨_, rfl⟩
                obtain ⟨f3, hf3⟩ : ∃ n, n = kindS 3 L := ⟨_, rfl⟩
                obtain ⟨f4, hf4⟩ : ∃ n, n = kindS 4 L := ⟨_, rfl⟩
                obtain ⟨ne, hne0⟩ : ∃ n, n = (edgesL L).length := ⟨_, rfl⟩
                have hTe : T = ((0 : Int), (pl : Int), ((bytesS L : Nat) : Int), (f1 : Int), (f2 : Int), (f3 : Int), (f4 : Int), ((kindS 5 L : Nat) : Int), (al : Int)) := by rw [hT.out, hpl, hf1, hf2, hf3, hf4]; rfl
                rw [hTe] at K6
                have K6 := Lib.hid (K6.out.ext B.out)
                have HTT : Hid (∀ u : World, Calls Tryz.prog 55 #[.agg (vecA (vecL L))] u (RetB u (.int .i64 (pl : Int)))) := fun u => by
                  have h1 := rtotal_any (vecL L) (vecL_ok L) u
                  rw [hvt, ← hpl] at h1
                  exact h1
                have hfew : L.length ≤ 400 := by have := hL20.out; omega
                have HFI : Hid (∀ u, Below wr.heap.size wr u → Calls Tryz.prog 56 #[.pointer (some ⟨g, 0, none⟩)] u (OwnedRet u 98 3 f1 ((filesL L).flatMap encV))) := fun u hu => by
                  have h1 := files20_any ((G7.out.ext B.out).ext hu) hfew
                  rw [hfc, ← hf1] at h1
                  exact h1
                have HED : Hid (∀ u, Below wr.heap.size wr u → Calls Tryz.prog 57 #[.pointer (some ⟨g, 0, none⟩)] u (OwnedRet u 194 6 ne ((edgesL L).flatMap encE))) := fun u hu => by
                  have h1 := edges20_any ((G7.out.ext B.out).ext hu) hfew
                  rw [← hne0] at h1
                  exact h1
                have hne : ne ≤ f4 := by rw [hne0, hf4]; exact hec
                rw [← hf1, ← hf2, ← hf3] at hvc
                clear hTe hT hvt hfc hec hpl hf1 hf2 hf3 hf4 hne0 hfew
                have B := Lib.hid (B7.out.trans (B.out.mono B7.out.size))
                clear B7 G7 S7 VA GM
                clear hmv
                subst hvc
                go_wp2_with fail
                refine wp_region_held (S := fun w' => Below wr.heap.size wr w') mixed54m ?_
                change wpAnyH _ _ _ _ _ _ _ _ wr.drew
                have BD : Hid (Below wr.heap.size wr wr.drew) := (Below.refl _ _).drew
                generalize wr.drew = wd at *
                simp only [List.size_toArray, List.length_cons, List.length_nil]
                refine takeV (i := 0) (d := 112) (v := .pointer (some ⟨g6, 0, none⟩)) rfl (by kernel_rfl) (by kernel_rfl) (by kernel_rfl) (fun _ _ _ h => h) rfl (fun w' _ => exField rfl (fieldRow g6 0 0 (by omega) w')) BD.out ?_
                simp only [Act.put, List.setIfInBounds_toArray, List.set_cons_zero, List.set_cons_succ]
                refine takeV (i := 1) (d := 113) (v := .int .u8 (0 : Int)) rfl (by kernel_rfl) (by kernel_rfl) (by kernel_rfl) (fun _ _ _ h => h) rfl (fun w' h => exLoad rfl (loadU8 g6 0 w' (0 : Int) ((K6.out.ext h).cell 0))) BD.out ?_
                simp only [Act.put, List.setIfInBounds_toArray, List.set_cons_zero, List.set_cons_succ]
                refine takeV (i := 2) (d := 114) (v := .bool true) rfl (by kernel_rfl) (by kernel_rfl) (by kernel_rfl) (fun _ _ _ h => h) rfl (fun w' _ => exBin rfl rfl (by rfl) (eqU54 w')) BD.out ?_
                simp only [Act.put, List.setIfInBounds_toArray, List.set_cons_zero, List.set_cons_succ]
                refine takeV (i := 3) (d := 115) (v := .bool true) rfl (by kernel_rfl) (by kernel_rfl) (by kernel_rfl) (fun _ _ _ h => h) rfl (fun _ _ => exMove (v := .bool true) rfl) BD.out ?_
                simp only [Act.put, List.setIfInBounds_toArray, List.set_cons_zero, List.set_cons_succ]
                refine takeV (i := 4) (d := 116) (v := .pointer (some ⟨g6, 1, none⟩)) rfl (by kernel_rfl) (by kernel_rfl) (by kernel_rfl) (fun _ _ _ h => h) rfl (fun w' _ => exField rfl (fieldRow g6 0 1 (by omega) w')) BD.out ?_
                simp only [Act.put, List.setIfInBounds_toArray, List.set_cons_zero, List.set_cons_succ]
                refine takeV (i := 5) (d := 117) (v := .int .i64 (pl : Int)) rfl (by kernel_rfl) (by kernel_rfl) (by kernel_rfl) (fun _ _ _ h => h) rfl (fun w' h => exLoad rfl (loadI54b g6 1 w' (pl : Int) ((K6.out.ext h).cell 1))) BD.out ?_
                simp only [Act.put, List.setIfInBounds_toArray, List.set_cons_zero, List.set_cons_succ]
                refine takeV (i := 6) (d := 118) (v := .pointer (some ⟨g, 0, none⟩)) rfl (by kernel_rfl) (by kernel_rfl) (by kernel_rfl) (fun _ _ _ h => h) rfl (fun _ _ => exMove (v := .pointer (some ⟨g, 0, none⟩)) rfl) BD.out ?_
                simp only [Act.put, List.setIfInBounds_toArray, List.set_cons_zero, List.set_cons_succ]
                refine wpAnyH_all (rs := [7]) (by kernel_rfl) (by simp) ?_
                intro i hi
                simp only [List.mem_cons, List.not_mem_nil, or_false] at hi
                subst hi
                refine wpOp_of rfl rfl (wp_called (args := #[.pointer (some ⟨g, 0, none⟩)]) hcV (by simp only [List.map_toArray, List.map_cons, List.map_nil]; rfl) (HVC.out wd BD.out) ?_)
                rintro e w_1 ⟨rfl, h_2⟩
                refine ⟨_, rfl, ext_trans BD.out h_2, ?_⟩
                simp only [Act.put, List.setIfInBounds_toArray, List.set_cons_zero, List.set_cons_succ]
                have B_3 := Lib.hid (ext_trans BD.out h_2)
                clear BD
                clear h_2
                refine wpAnyH_all (rs := [8]) (by kernel_rfl) (by simp) ?_
                intro i hi
                simp only [List.mem_cons, List.not_mem_nil, or_false] at hi
                subst hi
                refine wpOp_of rfl rfl (wp_called (args := #[.agg (vecA (vecL L))]) hcT (by simp only [List.map_toArray, List.map_cons, List.map_nil]; rfl) (HTT.out w_1) ?_)
                rintro e w_4 ⟨rfl, h_5⟩
                refine ⟨_, rfl, ext_trans B_3.out h_5, ?_⟩
                simp only [Act.put, List.setIfInBounds_toArray, List.set_cons_zero, List.set_cons_succ]
                have B_6 := Lib.hid (ext_trans B_3.out h_5)
                clear B_3
                clear h_5
                refine takeV (i := 9) (d := 121) (v := .bool true) rfl (by kernel_rfl) (by kernel_rfl) (by kernel_rfl) (fun _ _ _ h => h) rfl (fun w' _ => exBin rfl rfl (by rfl) (eqI54 _ w')) B_6.out ?_
                simp only [Act.put, List.setIfInBounds_toArray, List.set_cons_zero, List.set_cons_succ]
                refine takeV (i := 10) (d := 122) (v := .bool true) rfl (by kernel_rfl) (by kernel_rfl) (by kernel_rfl) (fun _ _ _ h => h) rfl (fun _ _ => exPickT (v := .bool true) rfl rfl) B_6.out ?_
                simp only [Act.put, List.setIfInBounds_toArray, List.set_cons_zero, List.set_cons_succ]
                refine takeV (i := 11) (d := 123) (v := .bool true) rfl (by kernel_rfl) (by kernel_rfl) (by kernel_rfl) (fun _ _ _ h => h) rfl (fun _ _ => exMove (v := .bool true) rfl) B_6.out ?_
                simp only [Act.put, List.setIfInBounds_toArray, List.set_cons_zero, List.set_cons_succ]
                refine takeV (i := 12) (d := 124) (v := .pointer (some ⟨g6, 3, none⟩)) rfl (by kernel_rfl) (by kernel_rfl) (by kernel_rfl) (fun _ _ _ h => h) rfl (fun w' _ => exField rfl (fieldRow g6 0 3 (by omega) w')) B_6.out ?_
                simp only [Act.put, List.setIfInBounds_toArray, List.set_cons_zero, List.set_cons_succ]
                refine takeV (i := 13) (d := 125) (v := .int .i64 (f1 : Int)) rfl (by kernel_rfl) (by kernel_rfl) (by kernel_rfl) (fun _ _ _ h => h) rfl (fun w' h => exLoad rfl (loadI54b g6 3 w' (f1 : Int) ((K6.out.ext h).cell 3))) B_6.out ?_
                simp only [Act.put, List.setIfInBounds_toArray, List.set_cons_zero, List.set_cons_succ]
                refine takeV (i := 14) (d := 126) (v := .pointer (some ⟨g, 0, none⟩)) rfl (by kernel_rfl) (by kernel_rfl) (by kernel_rfl) (fun _ _ _ h => h) rfl (fun _ _ => exMove (v := .pointer (some ⟨g, 0, none⟩)) rfl) B_6.out ?_
                simp only [Act.put, List.setIfInBounds_toArray, List.set_cons_zero, List.set_cons_succ]
                refine wpAnyH_all (rs := [15]) (by kernel_rfl) (by simp) ?_
                intro i hi
                simp only [List.mem_cons, List.not_mem_nil, or_false] at hi
                subst hi
                refine wpOp_of rfl rfl (wp_called (args := #[.pointer (some ⟨g, 0, none⟩)]) hcF (by simp only [List.map_toArray, List.map_cons, List.map_nil]; rfl) (HFI.out w_4 B_6.out) ?_)
                rintro e w_7 ⟨v_8, rfl, o_9, h_10⟩
                obtain ⟨A_11, c_12, rfl, -, -⟩ := Sl.of_own o_9
                refine ⟨_, rfl, ext_trans B_6.out h_10, ?_⟩
                simp only [Act.put, List.setIfInBounds_toArray, List.set_cons_zero, List.set_cons_succ]
                have B_13 := Lib.hid (ext_trans B_6.out h_10)
                clear B_6
                clear o_9 h_10
                refine takeV (i := 16) (d := 128) (v := .int .i64 ((f1 : Nat) : Int)) rfl (by kernel_rfl) (by kernel_rfl) (by kernel_rfl) (fun _ _ _ h => h) rfl (fun _ _ => exLen Tryz.underlying103 rfl) B_13.out ?_
                simp only [Act.put, List.setIfInBounds_toArray, List.set_cons_zero, List.set_cons_succ]
                refine takeV (i := 17) (d := 129) (v := .bool true) rfl (by kernel_rfl) (by kernel_rfl) (by kernel_rfl) (fun _ _ _ h => h) rfl (fun w' _ => exBin rfl rfl (by rfl) (eqI54 _ w')) B_13.out ?_
                simp only [Act.put, List.setIfInBounds_toArray, List.set_cons_zero, List.set_cons_succ]
                refine takeV (i := 18) (d := 130) (v := .bool true) rfl (by kernel_rfl) (by kernel_rfl) (by kernel_rfl) (fun _ _ _ h => h) rfl (fun _ _ => exPickT (v := .bool true) rfl rfl) B_13.out ?_
                simp only [Act.put, List.setIfInBounds_toArray, List.set_cons_zero, List.set_cons_succ]
                refine takeV (i := 19) (d := 131) (v := .bool true) rfl (by kernel_rfl) (by kernel_rfl) (by kernel_rfl) (fun _ _ _ h => h) rfl (fun _ _ => exMove (v := .bool true) rfl) B_13.out ?_
                simp only [Act.put, List.setIfInBounds_toArray, List.set_cons_zero, List.set_cons_succ]
                refine takeV (i := 20) (d := 132) (v := .pointer (some ⟨g6, 3, none⟩)) rfl (by kernel_rfl) (by kernel_rfl) (by kernel_rfl) (fun _ _ _ h => h) rfl (fun w' _ => exField rfl (fieldRow g6 0 3 (by omega) w')) B_13.out ?_
                simp only [Act.put, List.setIfInBounds_toArray, List.set_cons_zero, List.set_cons_succ]
                refine takeV (i := 21) (d := 133) (v := .int .i64 (f1 : Int)) rfl (by kernel_rfl) (by kernel_rfl) (by kernel_rfl) (fun _ _ _ h => h) rfl (fun w' h => exLoad rfl (loadI54b g6 3 w' (f1 : Int) ((K6.out.ext h).cell 3))) B_13.out ?_
                simp only [Act.put, List.setIfInBounds_toArray, List.set_cons_zero, List.set_cons_succ]
                refine takeV (i := 22) (d := 134) (v := .pointer (some ⟨g6, 4, none⟩)) rfl (by kernel_rfl) (by kernel_rfl) (by kernel_rfl) (fun _ _ _ h => h) rfl (fun w' _ => exField rfl (fieldRow g6 0 4 (by omega) w')) B_13.out ?_
                simp only [Act.put, List.setIfInBounds_toArray, List.set_cons_zero, List.set_cons_succ]
                refine takeV (i := 23) (d := 135) (v := .int .i64 (f2 : Int)) rfl (by kernel_rfl) (by kernel_rfl) (by kernel_rfl) (fun _ _ _ h => h) rfl (fun w' h => exLoad rfl (loadI54b g6 4 w' (f2 : Int) ((K6.out.ext h).cell 4))) B_13.out ?_
                simp only [Act.put, List.setIfInBounds_toArray, List.set_cons_zero, List.set_cons_succ]
                refine takeV (i := 24) (d := 136) (v := .int .i64 ((f1 + f2 : Nat) : Int)) rfl (by kernel_rfl) (by kernel_rfl) (by kernel_rfl) (fun _ _ _ h => h) rfl (fun w' _ => exBin rfl rfl (by rfl) (addN54 f1 f2 w' (by omega))) B_13.out ?_
                simp only [Act.put, List.setIfInBounds_toArray, List.set_cons_zero, List.set_cons_succ]
                refine takeV (i := 25) (d := 137) (v := .pointer (some ⟨g6, 5, none⟩)) rfl (by kernel_rfl) (by kernel_rfl) (by kernel_rfl) (fun _ _ _ h => h) rfl (fun w' _ => exField rfl (fieldRow g6 0 5 (by omega) w')) B_13.out ?_
                simp only [Act.put, List.setIfInBounds_toArray, List.set_cons_zero, List.set_cons_succ]
                refine takeV (i := 26) (d := 138) (v := .int .i64 (f3 : Int)) rfl (by kernel_rfl) (by kernel_rfl) (by kernel_rfl) (fun _ _ _ h => h) rfl (fun w' h => exLoad rfl (loadI54b g6 5 w' (f3 : Int) ((K6.out.ext h).cell 5))) B_13.out ?_
                simp only [Act.put, List.setIfInBounds_toArray, List.set_cons_zero, List.set_cons_succ]
                refine takeV (i := 27) (d := 139) (v := .int .i64 ((f1 + f2 + f3 : Nat) : Int)) rfl (by kernel_rfl) (by kernel_rfl) (by kernel_rfl) (fun _ _ _ h => h) rfl (fun w' _ => exBin rfl rfl (by rfl) (addN54 (f1 + f2) f3 w' (by omega))) B_13.out ?_
                simp only [Act.put, List.setIfInBounds_toArray, List.set_cons_zero, List.set_cons_succ]
                refine takeV (i := 28) (d := 140) (v := .slice AV (f1 + f2 + f3) cV) rfl (by kernel_rfl) (by kernel_rfl) (by kernel_rfl) (fun _ _ _ h => h) rfl (fun _ _ => exMove (v := .slice AV (f1 + f2 + f3) cV) rfl) B_13.out ?_
                simp only [Act.put, List.setIfInBounds_toArray, List.set_cons_zero, List.set_cons_succ]
                refine takeV (i := 29) (d := 141) (v := .int .i64 (((f1 + f2 + f3) : Nat) : Int)) rfl (by kernel_rfl) (by kernel_rfl) (by kernel_rfl) (fun _ _ _ h => h) rfl (fun _ _ => exLen Tryz.underlying95 rfl) B_13.out ?_
                simp only [Act.put, List.setIfInBounds_toArray, List.set_cons_zero, List.set_cons_succ]
                refine takeV (i := 30) (d := 142) (v := .bool true) rfl (by kernel_rfl) (by kernel_rfl) (by kernel_rfl) (fun _ _ _ h => h) rfl (fun w' _ => exBin rfl rfl (by rfl) (eqI54 _ w')) B_13.out ?_
                simp only [Act.put, List.setIfInBounds_toArray, List.set_cons_zero, List.set_cons_succ]
                refine takeV (i := 31) (d := 143) (v := .bool true) rfl (by kernel_rfl) (by kernel_rfl) (by kernel_rfl) (fun _ _ _ h => h) rfl (fun _ _ => exPickT (v := .bool true) rfl rfl) B_13.out ?_
                simp only [Act.put, List.setIfInBounds_toArray, List.set_cons_zero, List.set_cons_succ]
                refine takeV (i := 32) (d := 144) (v := .bool true) rfl (by kernel_rfl) (by kernel_rfl) (by kernel_rfl) (fun _ _ _ h => h) rfl (fun _ _ => exMove (v := .bool true) rfl) B_13.out ?_
                simp only [Act.put, List.setIfInBounds_toArray, List.set_cons_zero, List.set_cons_succ]
                refine takeV (i := 33) (d := 145) (v := .pointer (some ⟨g6, 8, none⟩)) rfl (by kernel_rfl) (by kernel_rfl) (by kernel_rfl) (fun _ _ _ h => h) rfl (fun w' _ => exField rfl (fieldRow g6 0 8 (by omega) w')) B_13.out ?_
                simp only [Act.put, List.setIfInBounds_toArray, List.set_cons_zero, List.set_cons_succ]
                refine takeV (i := 34) (d := 146) (v := .int .i64 (al : Int)) rfl (by kernel_rfl) (by kernel_rfl) (by kernel_rfl) (fun _ _ _ h => h) rfl (fun w' h => exLoad rfl (loadI54b g6 8 w' (al : Int) ((K6.out.ext h).cell 8))) B_13.out ?_
                simp only [Act.put, List.setIfInBounds_toArray, List.set_cons_zero, List.set_cons_succ]
                refine takeV (i := 35) (d := 147) (v := .int .i64 (al : Int)) rfl (by kernel_rfl) (by kernel_rfl) (by kernel_rfl) (fun _ _ _ h => h) rfl (fun _ _ => exMove (v := .int .i64 (al : Int)) rfl) B_13.out ?_
                simp only [Act.put, List.setIfInBounds_toArray, List.set_cons_zero, List.set_cons_succ]
                refine takeV (i := 36) (d := 148) (v := .bool true) rfl (by kernel_rfl) (by kernel_rfl) (by kernel_rfl) (fun _ _ _ h => h) rfl (fun w' _ => exBin rfl rfl (by rfl) (eqI54 _ w')) B_13.out ?_
                simp only [Act.put, List.setIfInBounds_toArray, List.set_cons_zero, List.set_cons_succ]
                refine takeV (i := 37) (d := 149) (v := .bool true) rfl (by kernel_rfl) (by kernel_rfl) (by kernel_rfl) (fun _ _ _ h => h) rfl (fun _ _ => exPickT (v := .bool true) rfl rfl) B_13.out ?_
                simp only [Act.put, List.setIfInBounds_toArray, List.set_cons_zero, List.set_cons_succ]
                refine takeV (i := 38) (d := 150) (v := .bool true) rfl (by kernel_rfl) (by kernel_rfl) (by kernel_rfl) (fun _ _ _ h => h) rfl (fun _ _ => exMove (v := .bool true) rfl) B_13.out ?_
                simp only [Act.put, List.setIfInBounds_toArray, List.set_cons_zero, List.set_cons_succ]
                refine takeV (i := 39) (d := 151) (v := .pointer (some ⟨g6, 6, none⟩)) rfl (by kernel_rfl) (by kernel_rfl) (by kernel_rfl) (fun _ _ _ h => h) rfl (fun w' _ => exField rfl (fieldRow g6 0 6 (by omega) w')) B_13.out ?_
                simp only [Act.put, List.setIfInBounds_toArray, List.set_cons_zero, List.set_cons_succ]
                refine takeV (i := 40) (d := 152) (v := .int .i64 (f4 : Int)) rfl (by kernel_rfl) (by kernel_rfl) (by kernel_rfl) (fun _ _ _ h => h) rfl (fun w' h => exLoad rfl (loadI54b g6 6 w' (f4 : Int) ((K6.out.ext h).cell 6))) B_13.out ?_
                simp only [Act.put, List.setIfInBounds_toArray, List.set_cons_zero, List.set_cons_succ]
                refine takeV (i := 41) (d := 153) (v := .pointer (some ⟨g, 0, none⟩)) rfl (by kernel_rfl) (by kernel_rfl) (by kernel_rfl) (fun _ _ _ h => h) rfl (fun _ _ => exMove (v := .pointer (some ⟨g, 0, none⟩)) rfl) B_13.out ?_
                simp only [Act.put, List.setIfInBounds_toArray, List.set_cons_zero, List.set_cons_succ]
                refine wpAnyH_all (rs := [42]) (by kernel_rfl) (by simp) ?_
                intro i hi
                simp only [List.mem_cons, List.not_mem_nil, or_false] at hi
                subst hi
                refine wpOp_of rfl rfl (wp_called (args := #[.pointer (some ⟨g, 0, none⟩)]) hcE (by simp only [List.map_toArray, List.map_cons, List.map_nil]; rfl) (HED.out w_7 B_13.out) ?_)
                rintro e w_14 ⟨v_15, rfl, o_16, h_17⟩
                obtain ⟨A_18, c_19, rfl, -, -⟩ := Sl.of_own o_16
                refine ⟨_, rfl, ext_trans B_13.out h_17, ?_⟩
                simp only [Act.put, List.setIfInBounds_toArray, List.set_cons_zero, List.set_cons_succ]
                have B_20 := Lib.hid (ext_trans B_13.out h_17)
                clear B_13
                clear o_16 h_17
                refine takeV (i := 43) (d := 155) (v := .int .i64 ((ne : Nat) : Int)) rfl (by kernel_rfl) (by kernel_rfl) (by kernel_rfl) (fun _ _ _ h => h) rfl (fun _ _ => exLen Tryz.underlying105 rfl) B_20.out ?_
                simp only [Act.put, List.setIfInBounds_toArray, List.set_cons_zero, List.set_cons_succ]
                refine takeV (i := 44) (d := 156) (v := .bool true) rfl (by kernel_rfl) (by kernel_rfl) (by kernel_rfl) (fun _ _ _ h => h) rfl (fun w' _ => exBin rfl rfl (by rfl) (geI54 f4 ne w' hne)) B_20.out ?_
                simp only [Act.put, List.setIfInBounds_toArray, List.set_cons_zero, List.set_cons_succ]
                refine takeV (i := 45) (d := 157) (v := .bool true) rfl (by kernel_rfl) (by kernel_rfl) (by kernel_rfl) (fun _ _ _ h => h) rfl (fun _ _ => exPickT (v := .bool true) rfl rfl) B_20.out ?_
                simp only [Act.put, List.setIfInBounds_toArray, List.set_cons_zero, List.set_cons_succ]
                refine takeV (i := 46) (d := 158) (v := .bool true) rfl (by kernel_rfl) (by kernel_rfl) (by kernel_rfl) (fun _ _ _ h => h) rfl (fun _ _ => exMove (v := .bool true) rfl) B_20.out ?_
                simp only [Act.put, List.setIfInBounds_toArray, List.set_cons_zero, List.set_cons_succ]
                refine wpAnyH_all (rs := [47]) (by kernel_rfl) (by simp) ?_
                intro i hi
                simp only [List.mem_cons, List.not_mem_nil, or_false] at hi
                subst hi
                refine wpOp_of rfl rfl (wp_called (args := #[]) hcW (by simp) (works54 w_14) ?_)
                rintro e w_21 ⟨rfl, h_22⟩
                refine ⟨_, rfl, ext_trans B_20.out h_22, ?_⟩
                simp only [Act.put, List.setIfInBounds_toArray, List.set_cons_zero, List.set_cons_succ]
                have B_23 := Lib.hid (ext_trans B_20.out h_22)
                clear B_20
                clear h_22
                refine takeV (i := 48) (d := 160) (v := .bool true) rfl (by kernel_rfl) (by kernel_rfl) (by kernel_rfl) (fun _ _ _ h => h) rfl (fun _ _ => exPickT (v := .bool true) rfl rfl) B_23.out ?_
                simp only [Act.put, List.setIfInBounds_toArray, List.set_cons_zero, List.set_cons_succ]
                refine takeV (i := 49) (d := 2) (v := .bool true) rfl (by kernel_rfl) (by kernel_rfl) (by kernel_rfl) (fun _ _ _ h => h) rfl (fun _ _ => exAssign (v := .bool true) rfl) B_23.out ?_
                simp only [Act.put, List.setIfInBounds_toArray, List.set_cons_zero, List.set_cons_succ]
                refine wpAnyH_done (by kernel_rfl) ?_ _
                have BF := Lib.hid (B.out.trans (B_23.out.mono B.out.size))
                clear B_23 B
                go_wp2_with (go_ret; exact ⟨rfl, BF.out⟩)
end Go.Proofs.YtdafiipedlglpaaGreatDoor
