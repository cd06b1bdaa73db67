/- CensusTexts: walked. -/
import Derived.Test.YtihggkmjalofiaaGreatDoorStal
import Derived.Test.YtihggkmjalofiaaGreatDoorLst
import Derived.Test.YtihggkmjalofiaaGreatDoorCenu
namespace Go.Proofs.YtihggkmjalofiaaGreatDoor
open Go.RowKit

theorem wpL_g {P : Program} {ops : Array Oper} {rest : List Oper} {o : Oper} {a : Act} {w : World} {Q : Exit → Act → World → Prop} {v : Value} (hw : Region.wanted o (yielded ops a.tmps) = true) (hx : (execOp a.eval o).run P w = .ok (.value v) w)
  (h : wpList P ops Q rest (a.put o.dst v) w) : wpList P ops Q (o :: rest) a w :=
 wpList_wanted hw fun _ hK => by
  unfold Oper.wp
  rw [hx]
  exact hK _ _ h
theorem wpL_op {P : Program} {ops : Array Oper} {rest : List Oper} {o : Oper} {a : Act} {w : World} {Q : Exit → Act → World → Prop} (hw : Region.wanted o (yielded ops a.tmps) = true)
 (h : ∀ K : Act → World → Prop, (∀ a w, wpList P ops Q rest a w → K a w) → o.wp P a w K Q) : wpList P ops Q (o :: rest) a w := wpList_wanted hw h
theorem eqRR54 (r : RowR) (w : World) : (binOp .eql 109 (.agg (encR r).toArray) (.agg (encR r).toArray)).run Tryz.prog w = .ok (.bool true) w := by
 unfold encR
 simp [go_sem]
theorem grdRR54 (r r' : RowR) (w : World) : (eqGuard .eql 109 (.tmp 11) (.tmp 14) (.agg (encR r).toArray) (.agg (encR r').toArray)).run Tryz.prog w = .ok () w := by kernel_rfl
theorem eqStr54 (s : ByteArray) (w : World) : (binOp .eql 9 (.string s) (.string s)).run Tryz.prog w = .ok (.bool true) w := by
 simp [go_sem]
set_option maxRecDepth 100000 in
set_option maxHeartbeats 8000000 in
theorem censusTexts_walk (w : World) (R : List RowR) (hA : ∀ r ∈ R, anyR r) (A : Option Addr) (n c : Nat) (hm : n ≤ maxLen) (hn : R.length = n) (h : Sl w w.heap.size 9 A n (R.flatMap encR)) (hP : PowOk w) :
  Calls Tryz.prog 10 #[.slice A n c] w (RetB w (.bool true)) := by
 have H := Lib.hid h
 have HN := Lib.hid hn
 have HA := Lib.hid hA
 have HP0 := Lib.hid hP
 unfold maxLen at hm
 clear h hn hA hP
 go_enter Tryz.func10, Tryz.ntmps10
 by_cases h60 : 60 < n
 ·have hz : (60 : Int) < (n : Int) := by omega
  go_wp2_with fail
  refine (works54 w).mono ?_
  rintro e w2 ⟨rfl, bb⟩
  have B := Lib.hid bb
  clear bb
  go_wp2_with fail
  go_ret
  exact ⟨rfl, B.out⟩
 ·have hz : ¬ (60 : Int) < (n : Int) := by omega
  have hm60 : n ≤ 60 := by omega
  go_wp2_with fail
  refine (by54_any R w A n c HN.out hm60 H.out).mono ?_
  rintro e w1 ⟨v, rfl, own, bb⟩
  have B1 := Lib.hid bb
  have HL := Lib.hid ((H.out.below bb (Nat.le_refl _)).more bb.size)
  have HP := Lib.hid (pow_ext HP0.out bb)
  obtain ⟨Ay, cy, hv, hcy, sly⟩ := Sl.of_own own
  subst hv
  have SY := Lib.hid sly
  have HY : Hid ((sortKy linesR R).length = n) := by rw [Hid, sortKy_len, HN.out]
  clear own bb sly H HP0
  go_upto_region 4 with fail
  refine wp_region_list ?_
  obtain ⟨wd, hwd⟩ : ∃ x, x = w1 := ⟨_, rfl⟩
  rw [← hwd]
  have BD : Hid (Below w1.heap.size w1 wd) := by rw [hwd]; exact Below.refl _ _
  clear hwd
  refine wpL_g rfl (exMove (v := .slice A n c) rfl) ?_
  simp only [Act.put, List.setIfInBounds_toArray, List.set_cons_zero, List.set_cons_succ]
  refine wpL_op rfl fun K hK => ?_
  refine (wp_called (args := #[.slice A n c]) (enters_of Tryz.func54 (by kernel_rfl) rfl) (by simp only [List.map_toArray, List.map_cons, List.map_nil]; rfl) (total54_any R wd A c n HN.out (by omega) ((HL.out.below BD.out (Nat.le_refl _)).more BD.out.size)) ?_)
  rintro _ q1 ⟨rfl, bb⟩
  have C1 := Lib.hid (ext_trans BD.out bb)
  clear bb
  refine ⟨_, rfl, hK _ _ ?_⟩
  clear hK
  simp only [Act.put, List.setIfInBounds_toArray, List.set_cons_zero, List.set_cons_succ]
  refine wpL_g rfl (exMove (v := .slice A n c) rfl) ?_
  simp only [Act.put, List.setIfInBounds_toArray, List.set_cons_zero, List.set_cons_succ]
  refine wpL_op rfl fun K hK => ?_
  refine (wp_called (args := #[.slice A n c]) (enters_of Tryz.func56 (by kernel_rfl) rfl) (by simp only [List.map_toArray, List.map_cons, List.map_nil]; rfl) (rows54_any R q1 A n c HN.out (by omega) ((HL.out.below C1.out (Nat.le_refl _)).more C1.out.size)) ?_)
  rintro _ q2 ⟨v, rfl, own, bb⟩
  have C2 := Lib.hid (ext_trans C1.out bb)
  obtain ⟨Aa, ca, hv, hca, sla⟩ := Sl.of_own own
  subst hv
  have Sa := Lib.hid sla
  clear own sla
  clear bb
  refine ⟨_, rfl, hK _ _ ?_⟩
  clear hK
  simp only [Act.put, List.setIfInBounds_toArray, List.set_cons_zero, List.set_cons_succ]
  refine wpL_op rfl fun K hK => ?_
  refine (wp_called (args := #[.slice Aa n ca]) (enters_of Tryz.func55 (by kernel_rfl) rfl) (by simp only [List.map_toArray, List.map_cons, List.map_nil]; rfl) (rtotal54_any R q2 Aa n ca HN.out (by omega) Sa.out) ?_)
  rintro _ q3 ⟨rfl, bb⟩
  have C3 := Lib.hid (ext_trans C2.out bb)
  clear bb
  refine ⟨_, rfl, hK _ _ ?_⟩
  clear hK
  simp only [Act.put, List.setIfInBounds_toArray, List.set_cons_zero, List.set_cons_succ]
  refine wpL_g rfl (exBin (v := .bool true) rfl rfl (grdRR54 _ _ _) (eqRR54 (totR R) _)) ?_
  simp only [Act.put, List.setIfInBounds_toArray, List.set_cons_zero, List.set_cons_succ]
  refine wpL_g rfl (exMove (v := .bool true) rfl) ?_
  simp only [Act.put, List.setIfInBounds_toArray, List.set_cons_zero, List.set_cons_succ]
  refine wpL_g rfl (exMove (v := .slice A n c) rfl) ?_
  simp only [Act.put, List.setIfInBounds_toArray, List.set_cons_zero, List.set_cons_succ]
  refine wpL_op rfl fun K hK => ?_
  refine (wp_called (args := #[.slice A n c]) (enters_of Tryz.func57 (by kernel_rfl) rfl) (by simp only [List.map_toArray, List.map_cons, List.map_nil]; rfl) (printX_any R HA.out q3 A c n HN.out (by omega) ((HL.out.below C3.out (Nat.le_refl _)).more C3.out.size) (pow_ext HP.out C3.out)) ?_)
  rintro _ q4 ⟨rfl, bb⟩
  have C4 := Lib.hid (ext_trans C3.out bb)
  clear bb
  refine ⟨_, rfl, hK _ _ ?_⟩
  clear hK
  simp only [Act.put, List.setIfInBounds_toArray, List.set_cons_zero, List.set_cons_succ]
  refine wpL_g rfl (exMove (v := .slice A n c) rfl) ?_
  simp only [Act.put, List.setIfInBounds_toArray, List.set_cons_zero, List.set_cons_succ]
  refine wpL_op rfl fun K hK => ?_
  refine (wp_called (args := #[.slice A n c]) (enters_of Tryz.func56 (by kernel_rfl) rfl) (by simp only [List.map_toArray, List.map_cons, List.map_nil]; rfl) (rows54_any R q4 A n c HN.out (by omega) ((HL.out.below C4.out (Nat.le_refl _)).more C4.out.size)) ?_)
  rintro _ q5 ⟨v, rfl, own, bb⟩
  have C5 := Lib.hid (ext_trans C4.out bb)
  obtain ⟨Ab, cb, hv, hcb, slb⟩ := Sl.of_own own
  subst hv
  have Sb := Lib.hid slb
  clear own slb
  clear bb
  refine ⟨_, rfl, hK _ _ ?_⟩
  clear hK
  simp only [Act.put, List.setIfInBounds_toArray, List.set_cons_zero, List.set_cons_succ]
  refine wpL_op rfl fun K hK => ?_
  refine (wp_called (args := #[.slice Ab n cb]) (enters_of Tryz.func58 (by kernel_rfl) rfl) (by simp only [List.map_toArray, List.map_cons, List.map_nil]; rfl) (rprint_any R HA.out q5 Ab cb n HN.out (by omega) Sb.out) ?_)
  rintro _ q6 ⟨rfl, bb⟩
  have C6 := Lib.hid (ext_trans C5.out bb)
  clear bb
  refine ⟨_, rfl, hK _ _ ?_⟩
  clear hK
  simp only [Act.put, List.setIfInBounds_toArray, List.set_cons_zero, List.set_cons_succ]
  refine wpL_g rfl (exBin (v := .bool true) rfl rfl (by rfl) (eqStr54 _ _)) ?_
  simp only [Act.put, List.setIfInBounds_toArray, List.set_cons_zero, List.set_cons_succ]
  refine wpL_g rfl (exPickT (v := .bool true) rfl rfl) ?_
  simp only [Act.put, List.setIfInBounds_toArray, List.set_cons_zero, List.set_cons_succ]
  refine wpL_g rfl (exMove (v := .bool true) rfl) ?_
  simp only [Act.put, List.setIfInBounds_toArray, List.set_cons_zero, List.set_cons_succ]
  refine wpL_g rfl (exMove (v := .slice Ay n cy) rfl) ?_
  simp only [Act.put, List.setIfInBounds_toArray, List.set_cons_zero, List.set_cons_succ]
  refine wpL_g rfl (exMove (v := .slice A n c) rfl) ?_
  simp only [Act.put, List.setIfInBounds_toArray, List.set_cons_zero, List.set_cons_succ]
  refine wpL_op rfl fun K hK => ?_
  refine (wp_called (args := #[.slice A n c]) (enters_of Tryz.func56 (by kernel_rfl) rfl) (by simp only [List.map_toArray, List.map_cons, List.map_nil]; rfl) (rows54_any R q6 A n c HN.out (by omega) ((HL.out.below C6.out (Nat.le_refl _)).more C6.out.size)) ?_)
  rintro _ q7 ⟨v, rfl, own, bb⟩
  have C7 := Lib.hid (ext_trans C6.out bb)
  obtain ⟨Ad, cd, hv, hcd, sld⟩ := Sl.of_own own
  subst hv
  have Sd := Lib.hid sld
  clear own sld
  clear bb
  refine ⟨_, rfl, hK _ _ ?_⟩
  clear hK
  simp only [Act.put, List.setIfInBounds_toArray, List.set_cons_zero, List.set_cons_succ]
  refine wpL_op rfl fun K hK => ?_
  refine (wp_called (args := #[.slice Ad n cd]) (enters_of Tryz.func60 (by kernel_rfl) rfl) (by simp only [List.map_toArray, List.map_cons, List.map_nil]; rfl) (rbyLines_any R q7 Ad n cd HN.out (by omega) Sd.out) ?_)
  rintro _ q8 ⟨v, rfl, own, bb⟩
  have C8 := Lib.hid (ext_trans C7.out bb)
  obtain ⟨Af, cf, hv, hcf, slf⟩ := Sl.of_own own
  subst hv
  have Sf := Lib.hid slf
  clear own slf
  clear bb
  refine ⟨_, rfl, hK _ _ ?_⟩
  clear hK
  simp only [Act.put, List.setIfInBounds_toArray, List.set_cons_zero, List.set_cons_succ]
  refine wpL_op rfl fun K hK => ?_
  refine (wp_called (args := #[.slice Ay n cy, .slice Af n cf]) (enters_of Tryz.func59 (by kernel_rfl) rfl) (by simp only [List.map_toArray, List.map_cons, List.map_nil]; rfl) (same54_any (sortKy linesR R) q8 Ay Af n cy cf HY.out (by omega) ((SY.out.below C8.out (Nat.le_refl _)).more C8.out.size) Sf.out) ?_)
  rintro _ q9 ⟨rfl, bb⟩
  have C9 := Lib.hid (ext_trans C8.out bb)
  clear bb
  refine ⟨_, rfl, hK _ _ ?_⟩
  clear hK
  simp only [Act.put, List.setIfInBounds_toArray, List.set_cons_zero, List.set_cons_succ]
  refine wpL_g rfl (exPickT (v := .bool true) rfl rfl) ?_
  simp only [Act.put, List.setIfInBounds_toArray, List.set_cons_zero, List.set_cons_succ]
  refine wpL_g rfl (exMove (v := .bool true) rfl) ?_
  simp only [Act.put, List.setIfInBounds_toArray, List.set_cons_zero, List.set_cons_succ]
  refine wpL_g rfl (exMove (v := .slice A n c) rfl) ?_
  simp only [Act.put, List.setIfInBounds_toArray, List.set_cons_zero, List.set_cons_succ]
  refine wpL_op rfl fun K hK => ?_
  refine (wp_called (args := #[.slice A n c, .nilFunc]) (enters_of Tryz.func52 (by kernel_rfl) rfl) (by simp only [List.map_toArray, List.map_cons, List.map_nil]; rfl) (byNil_any R q9 A n c HN.out hm60 ((HL.out.below C9.out (Nat.le_refl _)).more C9.out.size)) ?_)
  rintro _ q10 ⟨v, rfl, own, bb⟩
  have C10 := Lib.hid (ext_trans C9.out bb)
  obtain ⟨Ag, cg, hv, hcg, slg⟩ := Sl.of_own own
  subst hv
  have Sg := Lib.hid slg
  clear own slg
  clear bb
  refine ⟨_, rfl, hK _ _ ?_⟩
  clear hK
  simp only [Act.put, List.setIfInBounds_toArray, List.set_cons_zero, List.set_cons_succ]
  refine wpL_g rfl (exMove (v := .slice A n c) rfl) ?_
  simp only [Act.put, List.setIfInBounds_toArray, List.set_cons_zero, List.set_cons_succ]
  refine wpL_op rfl fun K hK => ?_
  refine (wp_called (args := #[.slice A n c]) (enters_of Tryz.func56 (by kernel_rfl) rfl) (by simp only [List.map_toArray, List.map_cons, List.map_nil]; rfl) (rows54_any R q10 A n c HN.out (by omega) ((HL.out.below C10.out (Nat.le_refl _)).more C10.out.size)) ?_)
  rintro _ q11 ⟨v, rfl, own, bb⟩
  have C11 := Lib.hid (ext_trans C10.out bb)
  obtain ⟨Ak, ck, hv, hck, slk⟩ := Sl.of_own own
  subst hv
  have Sk := Lib.hid slk
  clear own slk
  have Sg2 := Lib.hid ((Sg.out.below bb (Nat.le_refl _)).more bb.size)
  clear bb
  refine ⟨_, rfl, hK _ _ ?_⟩
  clear hK
  simp only [Act.put, List.setIfInBounds_toArray, List.set_cons_zero, List.set_cons_succ]
  refine wpL_op rfl fun K hK => ?_
  refine (wp_called (args := #[.slice Ag n cg, .slice Ak n ck]) (enters_of Tryz.func59 (by kernel_rfl) rfl) (by simp only [List.map_toArray, List.map_cons, List.map_nil]; rfl) (same54_any R q11 Ag Ak n cg ck HN.out (by omega) Sg2.out Sk.out) ?_)
  rintro _ q12 ⟨rfl, bb⟩
  have C12 := Lib.hid (ext_trans C11.out bb)
  clear bb
  refine ⟨_, rfl, hK _ _ ?_⟩
  clear hK
  simp only [Act.put, List.setIfInBounds_toArray, List.set_cons_zero, List.set_cons_succ]
  refine wpL_g rfl (exPickT (v := .bool true) rfl rfl) ?_
  simp only [Act.put, List.setIfInBounds_toArray, List.set_cons_zero, List.set_cons_succ]
  refine wpL_g rfl (exMove (v := .bool true) rfl) ?_
  simp only [Act.put, List.setIfInBounds_toArray, List.set_cons_zero, List.set_cons_succ]
  refine wpL_op rfl fun K hK => ?_
  refine (wp_called (args := #[]) (enters_of Tryz.func51 (by kernel_rfl) rfl) (by simp only [List.map_toArray, List.map_nil]) (works54 q12) ?_)
  rintro _ q13 ⟨rfl, bb⟩
  have C13 := Lib.hid (ext_trans C12.out bb)
  clear bb
  refine ⟨_, rfl, hK _ _ ?_⟩
  clear hK
  simp only [Act.put, List.setIfInBounds_toArray, List.set_cons_zero, List.set_cons_succ]
  refine wpL_g rfl (exPickT (v := .bool true) rfl rfl) ?_
  simp only [Act.put, List.setIfInBounds_toArray, List.set_cons_zero, List.set_cons_succ]
  refine wpL_g rfl (exAssign (v := .bool true) rfl) ?_
  simp only [Act.put, List.setIfInBounds_toArray, List.set_cons_zero, List.set_cons_succ]
  refine wpList_nil ?_
  have BF := Lib.hid (B1.out.trans (C13.out.mono B1.out.size))
  go_wp2_with fail
  go_ret
  exact ⟨rfl, BF.out⟩
end Go.Proofs.YtihggkmjalofiaaGreatDoor
