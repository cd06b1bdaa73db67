/- Bytes are opened by the document, and spoilt: walked. -/
import Derived.Test.YtdafiipedlglpaaGreatDoorCrcv
import Derived.Test.YtdafiipedlglpaaGreatDoorIdxw
import Derived.Test.YtdafiipedlglpaaGreatDoorPcds
namespace Go.Proofs.YtdafiipedlglpaaGreatDoor
open Go.RowKit

theorem exSlice5 {P : Program} {ρ : Operand → Value} {w : World} {d : Option Tmp} {ty t : TypeId} {pos : String} {after : Array Edge} {gd : Option (Nat × Bool)} {x : Operand} {lo hi mx : Option Operand} {xv v : Value} {lv hv mv : Option Value} (hx : ρ x = xv) (hl : lo.map ρ = lv) (hh : hi.map ρ = hv) (hm : mx.map ρ = mv) (hr : (Instr.sliceAt t xv lv hv mv).run P w = .ok v w) : (execOp ρ ⟨d, .slice t x lo hi mx, ty, pos, after, gd⟩).run P w = .ok (.value v) w := by
  unfold execOp
  simp only [hx, hl, hh, hm, Sem.run_bind, hr, Result.andThen_ok, Sem.run_pure]
theorem wp_conv5 {P : Program} {Q : Exit → Act → World → Prop} {K : Act → World → Prop} {a : Act} {w : World} {d : Option Tmp} {ty s t : TypeId} {pos : String} {after : Array Edge} {gd : Option (Nat × Bool)} {x : Operand} {xv v : Value} (hx : a.eval x = xv) (hr : (convert s t xv).run P w = .ok v w) (h : K (a.put d v) w) : Oper.wp P ⟨d, .convert s t x, ty, pos, after, gd⟩ a w K Q := by
  unfold Oper.wp execOp
  simp only [hx, Sem.run_bind, hr, Result.andThen_ok, Sem.run_pure]
  exact h
theorem str_ne5 {s t : ByteArray} (h : s ≠ t) : (s.toList == t.toList) = false := by
  rw [beq_eq_false_iff_ne]
  intro e
  rw [Lib.toList_data, Lib.toList_data] at e
  exact h (ByteArray.ext (Array.toList_inj.1 e))
theorem neqSt (s t : ByteArray) (w : World) : (binOp .neq 9 (.string s) (.string t)).run Tryz.prog w = .ok (.bool (!decide (s = t))) w := by
  by_cases h : s = t
  · subst h; simp [go_sem]
  · have := str_ne5 h
    simp [go_sem, this, h]
theorem neqSg (x y : Operand) (s t : ByteArray) (w : World) : (eqGuard .neq 9 x y (.string s) (.string t)).run Tryz.prog w = .ok () w := by simp [eqGuard, go_sem]
theorem bytesOf_inj {a b : List UInt8} : bytesOf a = bytesOf b ↔ a = b := by
  constructor
  · intro h
    have := congrArg (fun s : ByteArray => s.data.toList) h
    simpa [bytesOf] using this
  · intro h; rw [h]
theorem openB_four {l : List UInt8} {m : Nat} (h : l.length = m + 4) : openB l = if l.drop m = fourU (sumC (toB8 (l.take m))) then (l.take m, 0) else ([], 5) := by
  have e : l.length - 4 = m := by omega
  unfold openB
  rw [if_neg (by omega), e]
set_option maxRecDepth 100000 in
set_option maxHeartbeats 4000000 in
theorem ropen_any (l : List UInt8) (w : World) (A : Option Addr) (n c : Nat) (h : BytesAt w A n c l) (hm : n ≤ 10000000) :
    Calls Tryz.prog 91 #[.slice A n c] w (OpRet w l) := by
  have hl := h.len
  have BR := Lib.hid (Below.refl w.heap.size w)
  by_cases hn4 : n < 4
  · have E := Lib.hid (openB_short (l := l) (by omega))
    have z : (n : Int) < 4 := by omega
    clear h
    go_enter Tryz.func91, Tryz.ntmps91
    go_wp2_with fail
    refine bodyPost_ret (v := .tuple #[.slice none 0 0, .int .i64 2]) ?_ rfl ⟨.slice none 0 0, by rw [E.out]; rfl, by rw [E.out]; exact World.ownsRow_nil _ _ _ _, BR.out⟩
    simp [results, Tryz.results91, go_sem]
  · obtain ⟨m, hnm⟩ : ∃ m, n = m + 4 := ⟨n - 4, by omega⟩
    have E := Lib.hid (openB_four (l := l) (m := m) (by omega))
    have z4 : ¬ (n : Int) < 4 := by omega
    have SB := Lib.hid (fun u => sub4 hnm (by omega) u)
    have CL := Lib.hid (fun u => run_slice_low byteSl (A := A) (n := n) (c := c) (k := m) (by omega) u)
    have CH := Lib.hid (fun u => run_slice_high byteSl (A := A) (n := n) (c := c) (k := m) (by have := h.cap; omega) u)
    have LO := Lib.hid (h.low (k := m) (by omega))
    have HI := Lib.hid (h.top (k := m) (by omega))
    have e4 : n - m = 4 := by omega
    rw [e4] at LO CL
    have hm1 : m ≤ 10000000 := by omega
    clear h hn4 hnm e4
    generalize cutAddr A c m 1 = AL at *
    generalize cutAddr A c 0 1 = AH at *
    generalize l.drop m = t at *
    generalize l.take m = p at *
    generalize c - m = cm at *
    have HM : Hid (∀ u, Below w.heap.size w u → Calls Tryz.prog 83 #[.int .u32 0, .slice AH m c] u (Ret u (u32V (sumC (toB8 p))))) := fun u hu => rmore02_any p 0#32 u AH m c (HI.out.ext hu)
    have H4 := Lib.hid (fun u => four05_any (sumC (toB8 p)) u)
    have NS := Lib.hid (fun u => neqSt (bytesOf t) (bytesOf (fourU (sumC (toB8 p)))) u)
    have hc4 : ∀ args u, (callFunc 82 args).run Tryz.prog u = .ok (.enter 82 args) u := enters_of Tryz.func82 (by kernel_rfl) rfl
    have hcM : ∀ args u, (callFunc 83 args).run Tryz.prog u = .ok (.enter 83 args) u := enters_of Tryz.func83 (by kernel_rfl) rfl
    generalize sumC (toB8 p) = S at *
    go_enter Tryz.func91, Tryz.ntmps91
    go_upto_region 4 with ((with_reducible refine wpList_comp ?_ ?_ ?_ (SB.out _) ?_); rfl; rfl; rfl)
    by_cases hw : t = fourU S
    · rw [if_pos hw] at E
      rw [decide_eq_true (bytesOf_inj.2 hw)] at NS
      replace hw := Lib.hid hw
      refine wp_region_held (S := fun w' => Below w.heap.size w w') mixedS ?_
      change wpAnyH _ _ _ _ _ _ _ _ w.drew
      have B00 : Hid (Below w.heap.size w w.drew) := (Below.refl _ _).drew
      generalize w.drew = w0 at B00 ⊢
      simp only [List.size_toArray, List.length_cons, List.length_nil]
      refine takeV (i := 0) (d := 12) (v := .slice A n c) rfl (by kernel_rfl) (by kernel_rfl) (by kernel_rfl) (fun _ _ _ h => h) rfl (fun _ _ => exMove (v := .slice A n c) rfl) B00.out ?_
      simp only [Act.put, List.setIfInBounds_toArray, List.set_cons_zero, List.set_cons_succ]
      refine takeV (i := 1) (d := 13) (v := .int .i64 (m : Int)) rfl (by kernel_rfl) (by kernel_rfl) (by kernel_rfl) (fun _ _ _ h => h) rfl (fun _ _ => exMove (v := .int .i64 (m : Int)) rfl) B00.out ?_
      simp only [Act.put, List.setIfInBounds_toArray, List.set_cons_zero, List.set_cons_succ]
      refine takeV (i := 2) (d := 14) (v := .slice AL 4 cm) rfl (by kernel_rfl) (by kernel_rfl) (by kernel_rfl) (fun _ _ _ h => h) rfl (fun w' _ => exSlice5 rfl rfl rfl rfl (CL.out w')) B00.out ?_
      simp only [Act.put, List.setIfInBounds_toArray, List.set_cons_zero, List.set_cons_succ]
      refine takeV (i := 3) (d := 15) (v := .string (bytesOf t)) rfl (by kernel_rfl) (by kernel_rfl) (by kernel_rfl) (fun _ _ _ h => h) rfl (fun w' h => exConvB rfl (strB_run (LO.out.ext h).sl (LO.out.ext h).len)) B00.out ?_
      simp only [Act.put, List.setIfInBounds_toArray, List.set_cons_zero, List.set_cons_succ]
      refine takeV (i := 4) (d := 16) (v := .slice A n c) rfl (by kernel_rfl) (by kernel_rfl) (by kernel_rfl) (fun _ _ _ h => h) rfl (fun _ _ => exMove (v := .slice A n c) rfl) B00.out ?_
      simp only [Act.put, List.setIfInBounds_toArray, List.set_cons_zero, List.set_cons_succ]
      refine takeV (i := 5) (d := 17) (v := .int .i64 (m : Int)) rfl (by kernel_rfl) (by kernel_rfl) (by kernel_rfl) (fun _ _ _ h => h) rfl (fun _ _ => exMove (v := .int .i64 (m : Int)) rfl) B00.out ?_
      simp only [Act.put, List.setIfInBounds_toArray, List.set_cons_zero, List.set_cons_succ]
      refine takeV (i := 6) (d := 18) (v := .slice AH m c) rfl (by kernel_rfl) (by kernel_rfl) (by kernel_rfl) (fun _ _ _ h => h) rfl (fun w' _ => exSlice5 rfl rfl rfl rfl (CH.out w')) B00.out ?_
      simp only [Act.put, List.setIfInBounds_toArray, List.set_cons_zero, List.set_cons_succ]
      refine wpAnyH_all (rs := [7]) (by kernel_rfl) (by simp) ?_
      intro i hi
      simp only [List.mem_cons, List.not_mem_nil, or_false] at hi
      subst hi
      refine wpOp_of rfl rfl (wp_called (args := #[.int .u32 0, .slice AH m c]) hcM (by simp only [List.map_toArray, List.map_cons, List.map_nil]; rfl) (HM.out w0 B00.out) ?_)
      rintro e w_1 ⟨rfl, rfl⟩
      refine ⟨_, rfl, B00.out, ?_⟩
      simp only [Act.put, List.setIfInBounds_toArray, List.set_cons_zero, List.set_cons_succ]
      refine wpAnyH_all (rs := [8]) (by kernel_rfl) (by simp) ?_
      intro i hi
      simp only [List.mem_cons, List.not_mem_nil, or_false] at hi
      subst hi
      refine wpOp_of rfl rfl (wp_called (args := #[u32V S]) hc4 (by simp only [List.map_toArray, List.map_cons, List.map_nil]; rfl) (H4.out w0) ?_)
      rintro e w_2 ⟨_, rfl, o_4, h_3⟩
      obtain ⟨A_5, c_6, rfl, _, p_7⟩ := Sl.of_own o_4
      have Q_8 := Lib.hid p_7
      refine ⟨_, rfl, ext_trans B00.out h_3, ?_⟩
      simp only [Act.put, List.setIfInBounds_toArray, List.set_cons_zero, List.set_cons_succ]
      have B_9 := Lib.hid (ext_trans B00.out h_3)
      clear B00
      clear o_4 h_3 p_7
      refine wpAnyH_all (rs := [9]) (by kernel_rfl) (by simp) ?_
      intro i hi
      simp only [List.mem_cons, List.not_mem_nil, or_false] at hi
      subst hi
      refine wpOp_of rfl rfl (wp_conv5 rfl (strB_run Q_8.out rfl) ?_)
      refine ⟨B_9.out, ?_⟩
      simp only [Act.put, List.setIfInBounds_toArray, List.set_cons_zero, List.set_cons_succ]
      refine takeV (i := 10) (d := 22) (v := .bool false) rfl (by kernel_rfl) (by kernel_rfl) (by kernel_rfl) (fun _ _ _ h => h) rfl (fun w' _ => exBin rfl rfl (neqSg _ _ _ _ _) (NS.out _)) B_9.out ?_
      simp only [Act.put, List.setIfInBounds_toArray, List.set_cons_zero, List.set_cons_succ]
      refine wpAnyH_done (by kernel_rfl) ?_ _
      have B4 := B_9
      obtain ⟨w4, rfl⟩ : ∃ wx, wx = w_2 := ⟨_, rfl⟩
      clear B_9 Q_8
      have ON := Lib.hid (World.ownsRow_nil w4 w.heap.size 5 1)
      have HI4 := Lib.hid (HI.out.ext B4.out)
      go_wp2_with (first
        | (refine wpList_slB rfl rfl rfl rfl (CH.out _) ?_)
        | (at_builtin; refine wpList_catB byteSl ON.out HI4.out.sl (encB_one p) B4.out.size (by omega) (by unfold maxLen; omega) (by rfl) (by rfl) ?_; intro v6 w6 own6 kp6 hv6))
      rw [Nat.zero_add, List.nil_append] at own6
      have B6 : Hid (Below w.heap.size w w6) := B4.out.trans (kp6.below (fun k e => (ON.out.lt k e).1) B4.out.size)
      refine bodyPost_ret (v := .tuple #[v6, .int .i64 0]) ?_ rfl ⟨v6, by rw [E.out]; rfl, by rw [E.out, show (p, 0).1.length = m from HI4.out.len]; exact own6, B6.out⟩
      simp [results, Tryz.results91, go_sem]
    · rw [if_neg hw] at E
      rw [decide_eq_false fun h => hw (bytesOf_inj.1 h)] at NS
      replace hw := Lib.hid hw
      refine wp_region_held (S := fun w' => Below w.heap.size w w') mixedS ?_
      change wpAnyH _ _ _ _ _ _ _ _ w.drew
      have B00 : Hid (Below w.heap.size w w.drew) := (Below.refl _ _).drew
      generalize w.drew = w0 at B00 ⊢
      simp only [List.size_toArray, List.length_cons, List.length_nil]
      refine takeV (i := 0) (d := 12) (v := .slice A n c) rfl (by kernel_rfl) (by kernel_rfl) (by kernel_rfl) (fun _ _ _ h => h) rfl (fun _ _ => exMove (v := .slice A n c) rfl) B00.out ?_
      simp only [Act.put, List.setIfInBounds_toArray, List.set_cons_zero, List.set_cons_succ]
      refine takeV (i := 1) (d := 13) (v := .int .i64 (m : Int)) rfl (by kernel_rfl) (by kernel_rfl) (by kernel_rfl) (fun _ _ _ h => h) rfl (fun _ _ => exMove (v := .int .i64 (m : Int)) rfl) B00.out ?_
      simp only [Act.put, List.setIfInBounds_toArray, List.set_cons_zero, List.set_cons_succ]
      refine takeV (i := 2) (d := 14) (v := .slice AL 4 cm) rfl (by kernel_rfl) (by kernel_rfl) (by kernel_rfl) (fun _ _ _ h => h) rfl (fun w' _ => exSlice5 rfl rfl rfl rfl (CL.out w')) B00.out ?_
      simp only [Act.put, List.setIfInBounds_toArray, List.set_cons_zero, List.set_cons_succ]
      refine takeV (i := 3) (d := 15) (v := .string (bytesOf t)) rfl (by kernel_rfl) (by kernel_rfl) (by kernel_rfl) (fun _ _ _ h => h) rfl (fun w' h => exConvB rfl (strB_run (LO.out.ext h).sl (LO.out.ext h).len)) B00.out ?_
      simp only [Act.put, List.setIfInBounds_toArray, List.set_cons_zero, List.set_cons_succ]
      refine takeV (i := 4) (d := 16) (v := .slice A n c) rfl (by kernel_rfl) (by kernel_rfl) (by kernel_rfl) (fun _ _ _ h => h) rfl (fun _ _ => exMove (v := .slice A n c) rfl) B00.out ?_
      simp only [Act.put, List.setIfInBounds_toArray, List.set_cons_zero, List.set_cons_succ]
      refine takeV (i := 5) (d := 17) (v := .int .i64 (m : Int)) rfl (by kernel_rfl) (by kernel_rfl) (by kernel_rfl) (fun _ _ _ h => h) rfl (fun _ _ => exMove (v := .int .i64 (m : Int)) rfl) B00.out ?_
      simp only [Act.put, List.setIfInBounds_toArray, List.set_cons_zero, List.set_cons_succ]
      refine takeV (i := 6) (d := 18) (v := .slice AH m c) rfl (by kernel_rfl) (by kernel_rfl) (by kernel_rfl) (fun _ _ _ h => h) rfl (fun w' _ => exSlice5 rfl rfl rfl rfl (CH.out w')) B00.out ?_
      simp only [Act.put, List.setIfInBounds_toArray, List.set_cons_zero, List.set_cons_succ]
      refine wpAnyH_all (rs := [7]) (by kernel_rfl) (by simp) ?_
      intro i hi
      simp only [List.mem_cons, List.not_mem_nil, or_false] at hi
      subst hi
      refine wpOp_of rfl rfl (wp_called (args := #[.int .u32 0, .slice AH m c]) hcM (by simp only [List.map_toArray, List.map_cons, List.map_nil]; rfl) (HM.out w0 B00.out) ?_)
      rintro e w_1 ⟨rfl, rfl⟩
      refine ⟨_, rfl, B00.out, ?_⟩
      simp only [Act.put, List.setIfInBounds_toArray, List.set_cons_zero, List.set_cons_succ]
      refine wpAnyH_all (rs := [8]) (by kernel_rfl) (by simp) ?_
      intro i hi
      simp only [List.mem_cons, List.not_mem_nil, or_false] at hi
      subst hi
      refine wpOp_of rfl rfl (wp_called (args := #[u32V S]) hc4 (by simp only [List.map_toArray, List.map_cons, List.map_nil]; rfl) (H4.out w0) ?_)
      rintro e w_2 ⟨_, rfl, o_4, h_3⟩
      obtain ⟨A_5, c_6, rfl, _, p_7⟩ := Sl.of_own o_4
      have Q_8 := Lib.hid p_7
      refine ⟨_, rfl, ext_trans B00.out h_3, ?_⟩
      simp only [Act.put, List.setIfInBounds_toArray, List.set_cons_zero, List.set_cons_succ]
      have B_9 := Lib.hid (ext_trans B00.out h_3)
      clear B00
      clear o_4 h_3 p_7
      refine wpAnyH_all (rs := [9]) (by kernel_rfl) (by simp) ?_
      intro i hi
      simp only [List.mem_cons, List.not_mem_nil, or_false] at hi
      subst hi
      refine wpOp_of rfl rfl (wp_conv5 rfl (strB_run Q_8.out rfl) ?_)
      refine ⟨B_9.out, ?_⟩
      simp only [Act.put, List.setIfInBounds_toArray, List.set_cons_zero, List.set_cons_succ]
      refine takeV (i := 10) (d := 22) (v := .bool true) rfl (by kernel_rfl) (by kernel_rfl) (by kernel_rfl) (fun _ _ _ h => h) rfl (fun w' _ => exBin rfl rfl (neqSg _ _ _ _ _) (NS.out _)) B_9.out ?_
      simp only [Act.put, List.setIfInBounds_toArray, List.set_cons_zero, List.set_cons_succ]
      refine wpAnyH_done (by kernel_rfl) ?_ _
      have B4 := B_9
      obtain ⟨w4, rfl⟩ : ∃ wx, wx = w_2 := ⟨_, rfl⟩
      clear B_9 Q_8
      go_wp2_with fail
      refine bodyPost_ret (v := .tuple #[.slice none 0 0, .int .i64 5]) ?_ rfl ⟨.slice none 0 0, by rw [E.out]; rfl, by rw [E.out]; exact World.ownsRow_nil _ _ _ _, B4.out⟩
      simp [results, Tryz.results91, go_sem]
end Go.Proofs.YtdafiipedlglpaaGreatDoor
