/- OF ANY SMALL VECTOR all its patches, and of any vectors how many are unlike, are as the document says. No condition. -/
import Derived.Test.YtceapefjdiphpaaVecn
import Derived.Test.YtceapefjdiphpaaCat
import Derived.Test.YtceapefjdiphpaaLift
namespace Go.Proofs.Ytceapefjdiphpaa
open Go.ChangeShapes Go.WideShapes Go.RowKit Go.Deep

theorem eqI_guard (u : Nat) (w : World) (x y : Operand) : (eqGuard .eql 3 x y (.int .i64 u) (.int .i64 u)).run Try.prog w = .ok () w := by simp [eqGuard]
theorem eqI (u : Nat) (w : World) : (binOp .eql 3 (.int .i64 u) (.int .i64 u)).run Try.prog w = .ok (.bool true) w := by simp [go_sem]
theorem call15 (args : Array Value) (w : World) : (callFunc 15 args).run Try.prog w = .ok (.enter 15 args) w := by kernel_rfl
theorem call16 (args : Array Value) (w : World) : (callFunc 16 args).run Try.prog w = .ok (.enter 16 args) w := by kernel_rfl
theorem call14 (args : Array Value) (w : World) : (callFunc 14 args).run Try.prog w = .ok (.enter 14 args) w := by kernel_rfl
theorem call17 (args : Array Value) (w : World) : (callFunc 17 args).run Try.prog w = .ok (.enter 17 args) w := by kernel_rfl
theorem call18 (args : Array Value) (w : World) : (callFunc 18 args).run Try.prog w = .ok (.enter 18 args) w := by kernel_rfl
theorem call13 (args : Array Value) (w : World) : (callFunc 13 args).run Try.prog w = .ok (.enter 13 args) w := by kernel_rfl

set_option maxRecDepth 100000 in
set_option maxHeartbeats 4000000 in
theorem vecLists_main (a : List Int) (ha : VecOk a) (vs : List (List Int)) (hv : ∀ v ∈ vs, VecOk v) (w : World) (A : Option Addr) (n c : Nat) (hn : vs.length = n) (h : Sl w w.heap.size 64 A n (vecCs vs)) (hc : n ≤ 9223372036854775807) :
    Calls Try.prog 3 #[.agg (vecA a), .slice A n c] w (RetB w (.bool true)) := by
  have HA := Lib.hid ha
  have HV := Lib.hid hv
  have HL := Lib.hid hn
  have hs1 : Hid ((vecA a).size = 64) := by rw [Hid, vecA_size]; exact ha.len
  have HT := Lib.hid (fun w0 => rtotal_any a ha w0)
  have T1 : 0 ≤ totV a ∧ totV a ≤ 65535 * 64 := totTo_bd ha 64 (Nat.le_refl _)
  obtain ⟨t0, t1⟩ := T1
  have B0 : Hid (Below w.heap.size w (w.alloc (.cells (vecA a) 24))) := (Below.refl _ _).alloc (Nat.le_refl _) _
  have K1 : Hid (Blk (w.alloc (.cells (vecA a) 24)) w.heap.size 24 (vecA a)) := Blk.new _ _ _
  have S0 : Hid (Sl (w.alloc (.cells (vecA a) 24)) (w.alloc (.cells (vecA a) 24)).heap.size 64 A n (vecCs vs)) := h.up B0.out (Nat.le_refl _)
  clear ha hv hn h
  generalize totV a = tv at *
  by_cases h1 : tv ≤ 300
  · have hd1 : decide ((300 : Int) < tv) = false := decide_eq_false (by omega)
    by_cases h2 : n ≤ 40
    · have hd2 : ¬ (40 : Int) < (n : Int) := by omega
      go_enter Try.func3, Try.ntmps3
      go_wp2_with (refine wpList_load_row rfl 24 _ (by rfl) w.heap.size (by rfl) _ _ _ _ K1.out under64 rfl (by rw [hs1.out]; exact info64) ?_)
      generalize (w.alloc (.cells (vecA a) 24)) = w0 at *
      refine (HT.out _).mono ?_
      rintro e w1 ⟨rfl, b1⟩
      have K2 := Lib.hid (K1.out.ext b1)
      have B1 := Lib.hid (B0.out.trans (b1.mono B0.out.size))
      have S1 := Lib.hid (S0.out.up b1 (Nat.le_refl _))
      clear b1 K1 B0 S0 HT
      go_wp2_with fail
      refine wp_region_held (S := fun w' => Below w1.heap.size w1 w') mixed ?_
      have Z1 : Below w1.heap.size w1 w1.drew := (Below.refl _ _).drew
      change wpAnyH _ _ _ _ _ _ _ _ w1.drew
      generalize w1.drew = wd at *
      simp only [List.size_toArray, List.length_cons, List.length_nil]
      refine take_row (i := 0) rfl (by kernel_rfl) (by kernel_rfl) (by kernel_rfl) (fun _ _ _ h => h) rfl rfl (fun _ h => K2.out.ext h) under64 rfl (by rw [hs1.out]; exact info64) Z1 ?_
      simp only [Act.put, List.setIfInBounds_toArray, List.set_cons_zero, List.set_cons_succ]
      refine take_row (i := 2) rfl (by kernel_rfl) (by kernel_rfl) (by kernel_rfl) (fun _ _ _ h => h) rfl rfl (fun _ h => K2.out.ext h) under64 rfl (by rw [hs1.out]; exact info64) Z1 ?_
      simp only [Act.put, List.setIfInBounds_toArray, List.set_cons_zero, List.set_cons_succ]
      refine wpAnyH_all (rs := [1]) (by kernel_rfl) (by simp) ?_
      intro i hi
      simp only [List.mem_cons, List.not_mem_nil, or_false] at hi
      subst hi
      refine wpOp_of rfl rfl (wp_called call15 (by simp only [List.map_toArray, List.map_cons, List.map_nil]; rfl) (all_any a HA.out wd) ?_)
      rintro e q2 ⟨X2, x2, rfl, _, hx2, hb2⟩
      have Z2 : Below w1.heap.size w1 q2 := ext_trans Z1 hb2
      refine ⟨_, rfl, Z2, ?_⟩
      simp only [Act.put, List.setIfInBounds_toArray, List.set_cons_zero, List.set_cons_succ]
      refine wpAnyH_all (rs := [3]) (by kernel_rfl) (by simp) ?_
      intro i hi
      simp only [List.mem_cons, List.not_mem_nil, or_false] at hi
      subst hi
      refine wpOp_of rfl rfl (wp_called call16 (by simp only [List.map_toArray, List.map_cons, List.map_nil]; rfl) (rall_any a HA.out q2) ?_)
      rintro e q3 ⟨X3, x3, rfl, _, hx3, hb3⟩
      have Z3 : Below w1.heap.size w1 q3 := ext_trans Z2 hb3
      refine ⟨_, rfl, Z3, ?_⟩
      simp only [Act.put, List.setIfInBounds_toArray, List.set_cons_zero, List.set_cons_succ]
      refine wpAnyH_all (rs := [4]) (by kernel_rfl) (by simp) ?_
      intro i hi
      simp only [List.mem_cons, List.not_mem_nil, or_false] at hi
      subst hi
      refine wpOp_of rfl rfl (wp_called call14 (by simp only [List.map_toArray, List.map_cons, List.map_nil]; rfl) (rsame_any _ _ q3 _ _ _ _ _ _ rfl rfl (Nat.lt_of_le_of_lt (allTo_len HA.out 64 (Nat.le_refl _)) (by omega)) (hx2.up hb3 (Nat.le_refl _)) hx3) ?_)
      rintro e q4 ⟨rfl, k4, rfl⟩
      rw [decide_eq_true rfl]
      clear hx2 hx3 hb2 hb3
      have Z4 : Below w1.heap.size w1 (q3.drewN k4) := below_drewN Z3 k4
      refine ⟨_, rfl, Z4, ?_⟩
      simp only [Act.put, List.setIfInBounds_toArray, List.set_cons_zero, List.set_cons_succ]
      generalize q3.drewN k4 = q4 at *
      refine wpAnyH_all (rs := [5]) (by kernel_rfl) (by simp) ?_
      intro i hi
      simp only [List.mem_cons, List.not_mem_nil, or_false] at hi
      subst hi
      refine wpOp_of rfl rfl (wp_moved rfl ?_)
      refine ⟨Z4, ?_⟩
      simp only [Act.put, List.setIfInBounds_toArray, List.set_cons_zero, List.set_cons_succ]
      refine take_move (i := 6) rfl (by kernel_rfl) (by kernel_rfl) (by kernel_rfl) (fun _ _ _ h => h) rfl rfl Z4 ?_
      simp only [Act.put, List.setIfInBounds_toArray, List.set_cons_zero, List.set_cons_succ]
      refine take_move (i := 8) rfl (by kernel_rfl) (by kernel_rfl) (by kernel_rfl) (fun _ _ _ h => h) rfl rfl Z4 ?_
      simp only [Act.put, List.setIfInBounds_toArray, List.set_cons_zero, List.set_cons_succ]
      refine wpAnyH_all (rs := [7]) (by kernel_rfl) (by simp) ?_
      intro i hi
      simp only [List.mem_cons, List.not_mem_nil, or_false] at hi
      subst hi
      refine wpOp_of rfl rfl (wp_called call17 (by simp only [List.map_toArray, List.map_cons, List.map_nil]; rfl) (unlike_any vs HV.out q4 A n c HL.out h2 (S1.out.up Z4 (Nat.le_refl _))) ?_)
      rintro e q5 ⟨rfl, hb5⟩
      have Z5 : Below w1.heap.size w1 q5 := ext_trans Z4 hb5
      refine ⟨_, rfl, Z5, ?_⟩
      simp only [Act.put, List.setIfInBounds_toArray, List.set_cons_zero, List.set_cons_succ]
      refine wpAnyH_all (rs := [9]) (by kernel_rfl) (by simp) ?_
      intro i hi
      simp only [List.mem_cons, List.not_mem_nil, or_false] at hi
      subst hi
      refine wpOp_of rfl rfl (wp_called call18 (by simp only [List.map_toArray, List.map_cons, List.map_nil]; rfl) (runlike_any vs HV.out q5 A n c HL.out h2 (S1.out.up Z5 (Nat.le_refl _))) ?_)
      rintro e q6 ⟨rfl, k6, rfl⟩
      have Z6 : Below w1.heap.size w1 (q5.drewN k6) := below_drewN Z5 k6
      refine ⟨_, rfl, Z6, ?_⟩
      simp only [Act.put, List.setIfInBounds_toArray, List.set_cons_zero, List.set_cons_succ]
      generalize q5.drewN k6 = q6 at *
      generalize (uniq vs).length = uu at *
      refine wpAnyH_all (rs := [10]) (by kernel_rfl) (by simp) ?_
      intro i hi
      simp only [List.mem_cons, List.not_mem_nil, or_false] at hi
      subst hi
      refine wpOp_of rfl rfl (wp_computed (v := .bool true) rfl rfl (eqI_guard uu q6 _ _) (eqI uu q6) ?_)
      refine ⟨Z6, ?_⟩
      simp only [Act.put, List.setIfInBounds_toArray, List.set_cons_zero, List.set_cons_succ]
      refine wpAnyH_all (rs := [11]) (by kernel_rfl) (by simp) ?_
      intro i hi
      simp only [List.mem_cons, List.not_mem_nil, or_false] at hi
      subst hi
      refine wpOp_of rfl rfl (wp_picked rfl rfl ?_)
      refine ⟨Z6, ?_⟩
      simp only [Act.put, List.setIfInBounds_toArray, List.set_cons_zero, List.set_cons_succ]
      refine wpAnyH_all (rs := [12]) (by kernel_rfl) (by simp) ?_
      intro i hi
      simp only [List.mem_cons, List.not_mem_nil, or_false] at hi
      subst hi
      refine wpOp_of rfl rfl (wp_moved rfl ?_)
      refine ⟨Z6, ?_⟩
      simp only [Act.put, List.setIfInBounds_toArray, List.set_cons_zero, List.set_cons_succ]
      refine wpAnyH_all (rs := [13]) (by kernel_rfl) (by simp) ?_
      intro i hi
      simp only [List.mem_cons, List.not_mem_nil, or_false] at hi
      subst hi
      refine wpOp_of rfl rfl (wp_called call13 (by simp only [List.map_toArray, List.map_nil]) (works12 q6) ?_)
      rintro e q7 ⟨rfl, hb7⟩
      have Z7 : Below w1.heap.size w1 q7 := ext_trans Z6 hb7
      refine ⟨_, rfl, Z7, ?_⟩
      simp only [Act.put, List.setIfInBounds_toArray, List.set_cons_zero, List.set_cons_succ]
      refine wpAnyH_all (rs := [14]) (by kernel_rfl) (by simp) ?_
      intro i hi
      simp only [List.mem_cons, List.not_mem_nil, or_false] at hi
      subst hi
      refine wpOp_of rfl rfl (wp_picked rfl rfl ?_)
      refine ⟨Z7, ?_⟩
      simp only [Act.put, List.setIfInBounds_toArray, List.set_cons_zero, List.set_cons_succ]
      refine wpAnyH_all (rs := [15]) (by kernel_rfl) (by simp) ?_
      intro i hi
      simp only [List.mem_cons, List.not_mem_nil, or_false] at hi
      subst hi
      refine wpOp_of rfl rfl (wp_assigned rfl ?_)
      refine ⟨Z7, ?_⟩
      simp only [Act.put, List.setIfInBounds_toArray, List.set_cons_zero, List.set_cons_succ]
      refine wpAnyH_done (by kernel_rfl) ?_ _
      go_wp2
      go_ret
      exact ⟨rfl, B1.out.trans (Z7.mono B1.out.size)⟩
    · have hd2 : (40 : Int) < (n : Int) := by omega
      go_enter Try.func3, Try.ntmps3
      go_wp2_with (refine wpList_load_row rfl 24 _ (by rfl) w.heap.size (by rfl) _ _ _ _ K1.out under64 rfl (by rw [hs1.out]; exact info64) ?_)
      generalize (w.alloc (.cells (vecA a) 24)) = w0 at *
      refine (HT.out _).mono ?_
      rintro e w1 ⟨rfl, b1⟩
      have B1 := Lib.hid (B0.out.trans (b1.mono B0.out.size))
      clear b1 K1 B0 S0 HT
      go_wp2_with fail
      refine (works12 _).mono ?_
      rintro e w2 ⟨rfl, b2⟩
      have B2 := Lib.hid (B1.out.trans (b2.mono B1.out.size))
      clear b2 B1
      go_wp2
      go_ret
      exact ⟨rfl, B2.out⟩
  · have hd1 : (300 : Int) < tv := by omega
    go_enter Try.func3, Try.ntmps3
    go_wp2_with (refine wpList_load_row rfl 24 _ (by rfl) w.heap.size (by rfl) _ _ _ _ K1.out under64 rfl (by rw [hs1.out]; exact info64) ?_)
    generalize (w.alloc (.cells (vecA a) 24)) = w0 at *
    refine (HT.out _).mono ?_
    rintro e w1 ⟨rfl, b1⟩
    have B1 := Lib.hid (B0.out.trans (b1.mono B0.out.size))
    clear b1 K1 B0 S0 HT
    go_wp2_with fail
    refine (works12 _).mono ?_
    rintro e w2 ⟨rfl, b2⟩
    have B2 := Lib.hid (B1.out.trans (b2.mono B1.out.size))
    clear b2 B1
    go_wp2
    go_ret
    exact ⟨rfl, B2.out⟩

theorem vecLists_walk (w : World) (ca : List Value) (ha : FlatOk (List.replicate 64 (.int .u16)) ca) (A : Option Addr) (n c : Nat) (rows : List (List Value)) (hr : RowsAt (List.replicate 64 (.int .u16)) w A n c rows) :
    Calls Try.prog 3 #[.agg ca.toArray, .slice A n c] w (RetB w (.bool true)) := by
  obtain ⟨a, rfl, la, wa⟩ := flatOk_ints 64 ca ha
  have va := vecOk_of la wa
  obtain ⟨vs, hz, hv⟩ := rows_map vecC VecOk rows (fun r hr' => by
    obtain ⟨v, rfl, lv, wv⟩ := flatOk_ints 64 r (hr.ok r hr')
    exact ⟨v, rfl, vecOk_of lv wv⟩)
  have hsl := hr.sl
  rw [hz, ← List.flatMap_def] at hsl
  rw [List.length_replicate] at hsl
  have hcap := hr.cap
  have hle := hr.le
  unfold maxLen at hcap
  exact vecLists_main a va vs hv w A n c (by rw [← hr.len, hz]; simp) hsl (by omega)

set_option maxRecDepth 100000 in
theorem vecLists_lifted (os : Os) (started : os.Started) (H : Type) (enc : TypeId × Value → H) :
    ReturnsInHanded {} Try.checked os 3 .any (Rows.vecListsSpec.pre6 enc Try.prog Try.f3 Rows.vecListsRow.domain false) (Rows.vecListsSpec.post enc Try.prog Try.f3 false true false false) := by
  refine returnsInHanded_of_change (C := Try.checked) own started (by kernel_rfl) Try.func3
    (ChangeSpec.witness6 (enc := enc) (C := Try.checked) false ⟨#[], #[.agg (vecA vec0), .slice none 0 0], []⟩ 8 (by kernel_rfl) (by kernel_rfl) (by kernel_rfl) (by kernel_rfl)) ?_
  intro W base args ds gs before hval0 hW _ _
  have hval : ∀ (j : Nat) t v, Try.f3.params[j]? = some t → args[j]? = some v → Value.okWide Try.prog W .any base t v := hval0
  have hW' := hW
  obtain ⟨p, q, hA0, hV, hps, hfz, hnd⟩ := hW
  have hA : DataW.TrodAll enc Try.prog W 0 (fun _ => true) true Try.f3.params.toList args.toList ds p := hA0
  rw [Try.params3] at hA hval
  obtain ⟨v0, vs0, d0, ds0, p0, q0, hargs, rfl, hp0, h0, r0⟩ := trodAll_cons hA
  obtain ⟨v1, vs1, d1, ds1, p1, q1, rfl, rfl, hp1, h1, r1⟩ := trodAll_cons r0
  obtain ⟨rfl, rfl, _⟩ := trodAll_nil r1
  obtain rfl : args = #[v0, v1] := by cases args; simp_all
  obtain ⟨rfl, _⟩ := trodVars_none hV
  obtain ⟨a0, rfl, w0⟩ := open_flat (ks := List.replicate 64 (.int .u16)) (by kernel_rfl) (by kernel_rfl) (hval 0 24 v0 rfl rfl) h0
  obtain ⟨a1, n1, c1, rows1, rfl, w1⟩ := open_rows (ks := List.replicate 64 (.int .u16)) Try.underlying25 (by kernel_rfl) (by kernel_rfl) (by decide) (hval 1 25 v1 rfl rfl) h1
  refine (vecLists_walk W a0 w0 a1 n1 c1 rows1 w1).mono fun e W' ⟨he, bel⟩ => ?_
  subst he
  exact ⟨_, rfl, law_post (tb := 4) Try.underlying4 rfl (typesOk_of (by kernel_rfl)) hW' rfl rfl bel⟩
theorem vecLists_holds : Rows.VecListsSaid :=
  OpenClaim.holds_of_wide 3 Try.f3 rfl rfl rfl rfl rfl rfl rfl ⟨rfl, rfl, rfl, rfl, rfl⟩ rfl rfl rfl rfl rfl (by kernel_rfl) Try.func3 (by kernel_rfl)
    (of_decide_eq_true (by kernel_rfl)) (by unfold Func.isWrapper; first | (rw [if_pos (by decide +kernel)]; kernel_rfl) | (rw [if_neg (by decide +kernel)]; exact ⟨rfl, rfl⟩))
    (fun os started H enc _ => vecLists_lifted os started H enc)
end Go.Proofs.Ytceapefjdiphpaa
