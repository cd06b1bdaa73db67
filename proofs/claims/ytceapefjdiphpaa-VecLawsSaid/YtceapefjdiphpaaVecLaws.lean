/- VecLaws: joining and meeting hang on no order, and what is joined with itself stays. No conditions. -/
import Derived.Test.YtceapefjdiphpaaVecd
import Derived.Test.YtceapefjdiphpaaLift
namespace Go.Proofs.Ytceapefjdiphpaa
open Go.ChangeShapes Go.WideShapes Go.ChangeAt Go.RowKit

theorem joinV_comm {a b : List Int} (ha : VecOk a) (hb : VecOk b) : joinV b a = joinV a b :=
  eq_of_getD (joinV_len hb ha) (joinV_len ha hb) fun k hk => by rw [joinV_get hb ha k hk, joinV_get ha hb k hk]; omega
theorem joinV_assoc {a b c : List Int} (ha : VecOk a) (hb : VecOk b) (hc : VecOk c) : joinV a (joinV b c) = joinV (joinV a b) c :=
  eq_of_getD (joinV_len ha (hb.join hc)) (joinV_len (ha.join hb) hc) fun k hk => by
    rw [joinV_get ha (hb.join hc) k hk, joinV_get (ha.join hb) hc k hk, joinV_get hb hc k hk, joinV_get ha hb k hk]; omega
theorem joinV_self {a : List Int} (ha : VecOk a) : joinV a a = a :=
  eq_of_getD (joinV_len ha ha) ha.len fun k hk => by rw [joinV_get ha ha k hk]; omega
theorem meetV_comm {a b : List Int} (ha : VecOk a) (hb : VecOk b) : meetV b a = meetV a b :=
  eq_of_getD (hb.meet ha).len (ha.meet hb).len fun k hk => by rw [meetV_get hb ha k hk, meetV_get ha hb k hk]; omega
theorem meetV_join {a b : List Int} (ha : VecOk a) (hb : VecOk b) : meetV a (joinV a b) = a :=
  eq_of_getD (ha.meet (ha.join hb)).len ha.len fun k hk => by rw [meetV_get ha (ha.join hb) k hk, joinV_get ha hb k hk]; omega
theorem within_both {a b : List Int} (ha : VecOk a) (hb : VecOk b) : (withinV a b && withinV b a) = decide (a = b) := by
  rw [Bool.eq_iff_iff, Bool.and_eq_true, withinV_iff ha hb, withinV_iff hb ha, decide_eq_true_iff]
  constructor
  · rintro ⟨h1, h2⟩
    exact eq_of_getD ha.len hb.len fun k hk => Int.le_antisymm (h1 k hk) (h2 k hk)
  · rintro rfl; exact ⟨fun k _ => Int.le_refl _, fun k _ => Int.le_refl _⟩

set_option maxRecDepth 100000 in
set_option maxHeartbeats 2000000 in
theorem vecLaws_main (a b c : List Int) (ha : VecOk a) (hb : VecOk b) (hc : VecOk c) (w : World) : Calls Try.prog 4 #[.agg (vecA a), .agg (vecA b), .agg (vecA c)] w (RetB w (.bool true)) := by
  have J1 := Lib.hid (fun w0 => join_any a b ha hb w0)
  have J2 := Lib.hid (fun w0 => join_any b a hb ha w0)
  have J3 := Lib.hid (fun w0 => join_any (joinV a b) c (ha.join hb) hc w0)
  have J4 := Lib.hid (fun w0 => join_any b c hb hc w0)
  have J5 := Lib.hid (fun w0 => join_any a (joinV b c) ha (hb.join hc) w0)
  have J6 := Lib.hid (fun w0 => join_any a a ha ha w0)
  have M1 := Lib.hid (fun w0 => meet_any a b ha hb w0)
  have M2 := Lib.hid (fun w0 => meet_any b a hb ha w0)
  have M3 := Lib.hid (fun w0 => meet_any a (joinV a b) ha (ha.join hb) w0)
  have W1 := Lib.hid (fun w0 => within_any a b ha hb w0)
  have W2 := Lib.hid (fun w0 => within_any b a hb ha w0)
  have H9 := Lib.hid (fun w0 => works12 w0)
  rw [joinV_comm ha hb] at J2
  rw [joinV_assoc ha hb hc] at J5
  rw [joinV_self ha] at J6
  rw [meetV_comm ha hb] at M2
  rw [meetV_join ha hb] at M3
  have WW := Lib.hid (within_both ha hb)
  have e1 : ∀ w, (binOp .eql 24 (.agg (vecA (joinV a b))) (.agg (vecA (joinV a b)))).run Try.prog w = .ok (.bool true) w := fun w => by rw [eql_vec _ _ (ha.join hb) (ha.join hb), decide_eq_true rfl]
  have e2 : ∀ w, (binOp .eql 24 (.agg (vecA (joinV (joinV a b) c))) (.agg (vecA (joinV (joinV a b) c)))).run Try.prog w = .ok (.bool true) w := fun w => by rw [eql_vec _ _ ((ha.join hb).join hc) ((ha.join hb).join hc), decide_eq_true rfl]
  have e3 : ∀ w, (binOp .eql 24 (.agg (vecA a)) (.agg (vecA a))).run Try.prog w = .ok (.bool true) w := fun w => by rw [eql_vec _ _ ha ha, decide_eq_true rfl]
  have e4 : ∀ w, (binOp .eql 24 (.agg (vecA (meetV a b))) (.agg (vecA (meetV a b)))).run Try.prog w = .ok (.bool true) w := fun w => by rw [eql_vec _ _ (ha.meet hb) (ha.meet hb), decide_eq_true rfl]
  have e5 : ∀ w, (binOp .eql 24 (.agg (vecA a)) (.agg (vecA b))).run Try.prog w = .ok (.bool (decide (a = b))) w := fun w => eql_vec _ _ ha hb w
  have hs1 : Hid ((vecA a).size = 64) := by rw [Hid, vecA_size]; exact ha.len
  have hs2 : Hid ((vecA b).size = 64) := by rw [Hid, vecA_size]; exact hb.len
  have hs3 : Hid ((vecA c).size = 64) := by rw [Hid, vecA_size]; exact hc.len
  clear ha hb hc
  generalize joinV (joinV a b) c = j2 at *
  generalize joinV b c = j3 at *
  generalize joinV a b = j1 at *
  generalize meetV a b = m at *
  generalize withinV a b = x at *
  generalize withinV b a = y at *
  have B0 : Hid (Below w.heap.size w (((w.alloc (.cells (vecA a) 24)).alloc (.cells (vecA b) 24)).alloc (.cells (vecA c) 24))) := (((Below.refl _ _).alloc (Nat.le_refl _) _).alloc (by simp) _).alloc (by simp; omega) _
  have K1 : Hid (Blk (((w.alloc (.cells (vecA a) 24)).alloc (.cells (vecA b) 24)).alloc (.cells (vecA c) 24)) w.heap.size 24 (vecA a)) := ((Blk.new _ _ _).alloc _).alloc _
  have K2 : Hid (Blk (((w.alloc (.cells (vecA a) 24)).alloc (.cells (vecA b) 24)).alloc (.cells (vecA c) 24)) (w.heap.size + 1) 24 (vecA b)) := (Blk.newAt (by simp) _ _).alloc _
  have K3 : Hid (Blk (((w.alloc (.cells (vecA a) 24)).alloc (.cells (vecA b) 24)).alloc (.cells (vecA c) 24)) (w.heap.size + 1 + 1) 24 (vecA c)) := Blk.newAt (by simp) _ _
  have ew : (x = true ∧ y = decide (a = b)) ∨ (x = false ∧ decide (a = b) = false) := by
    have := WW.out
    cases x
    · exact .inr ⟨rfl, this.symm⟩
    · exact .inl ⟨rfl, this⟩
  clear WW
  generalize decide (a = b) = d at *
  rcases ew with ⟨rfl, rfl⟩ | ⟨rfl, rfl⟩
  all_goals
    go_enter Try.func4, Try.ntmps4
    go_wp2_with fail
    generalize (((w.alloc (.cells (vecA a) 24)).alloc (.cells (vecA b) 24)).alloc (.cells (vecA c) 24)) = w0 at *
    refine wp_region_ext mixed (by kernel_rfl) ?_
    repeat (first
      | (refine wpQuiet_load_row K1.out under64 rfl (by rw [hs1.out]; exact info64) rfl rfl ?_; simp only [List.set_cons_succ, List.set_cons_zero])
      | (refine wpQuiet_load_row K2.out under64 rfl (by rw [hs2.out]; exact info64) rfl rfl ?_; simp only [List.set_cons_succ, List.set_cons_zero])
      | (refine wpQuiet_load_row K3.out under64 rfl (by rw [hs3.out]; exact info64) rfl rfl ?_; simp only [List.set_cons_succ, List.set_cons_zero])
      | go_big_quiet_step ((first | (go_at_call 19; with_reducible exact ext_call (J1.out _)) | (go_at_call 19; with_reducible exact ext_call (J2.out _)) | (go_at_call 19; with_reducible exact ext_call (J3.out _)) | (go_at_call 19; with_reducible exact ext_call (J4.out _)) | (go_at_call 19; with_reducible exact ext_call (J5.out _)) | (go_at_call 19; with_reducible exact ext_call (J6.out _)) | (go_at_call 20; with_reducible exact ext_call (M1.out _)) | (go_at_call 20; with_reducible exact ext_call (M2.out _)) | (go_at_call 20; with_reducible exact ext_call (M3.out _)) | (go_at_call 21; with_reducible exact ext_call (W1.out _)) | (go_at_call 21; with_reducible exact ext_call (W2.out _)) | (go_at_call 13; with_reducible exact ext_call (H9.out _)))))
    refine wpQuiet_nil ?_
    rintro _ ⟨z, rfl⟩
    go_wp2
    go_ret
    exact ⟨rfl, B0.out.trans (z.h.mono B0.out.size)⟩

theorem vecLaws_walk (ca : List Value) (ha : FlatOk (List.replicate 64 (.int .u16)) ca) (cb : List Value) (hb : FlatOk (List.replicate 64 (.int .u16)) cb) (cc : List Value) (hc : FlatOk (List.replicate 64 (.int .u16)) cc) (w : World) :
    Calls Try.prog 4 #[.agg ca.toArray, .agg cb.toArray, .agg cc.toArray] w (RetB w (.bool true)) := by
  obtain ⟨a, rfl, la, wa⟩ := flatOk_ints 64 ca ha
  have va := vecOk_of la wa
  obtain ⟨b, rfl, lb, wb⟩ := flatOk_ints 64 cb hb
  have vb := vecOk_of lb wb
  obtain ⟨c, rfl, lc, wc⟩ := flatOk_ints 64 cc hc
  have vc := vecOk_of lc wc
  exact vecLaws_main a b c va vb vc w

set_option maxRecDepth 100000 in
theorem vecLaws_lifted (os : Os) (started : os.Started) (H : Type) (enc : TypeId × Value → H) :
    ReturnsInHanded {} Try.checked os 4 .any (Rows.vecLawsSpec.pre6 enc Try.prog Try.f4 Rows.vecLawsRow.domain false) (Rows.vecLawsSpec.post enc Try.prog Try.f4 false true false false) := by
  refine returnsInHanded_of_change (C := Try.checked) own started (by kernel_rfl) Try.func4
    (ChangeSpec.witness6 (enc := enc) (C := Try.checked) false ⟨#[], #[.agg (vecA vec0), .agg (vecA vec0), .agg (vecA vec0)], []⟩ 8 (by kernel_rfl) (by kernel_rfl) (by kernel_rfl) (by kernel_rfl)) ?_
  intro W base args ds gs before hval0 hW _ _
  have hval : ∀ (j : Nat) t v, Try.f4.params[j]? = some t → args[j]? = some v → Value.okWide Try.prog W .any base t v := hval0
  have hW' := hW
  obtain ⟨p, q, hA0, hV, hps, hfz, hnd⟩ := hW
  have hA : DataW.TrodAll enc Try.prog W 0 (fun _ => true) true Try.f4.params.toList args.toList ds p := hA0
  rw [Try.params4] at hA hval
  obtain ⟨v0, vs0, d0, ds0, p0, q0, hargs, rfl, hp0, h0, r0⟩ := trodAll_cons hA
  obtain ⟨v1, vs1, d1, ds1, p1, q1, rfl, rfl, hp1, h1, r1⟩ := trodAll_cons r0
  obtain ⟨v2, vs2, d2, ds2, p2, q2, rfl, rfl, hp2, h2, r2⟩ := trodAll_cons r1
  obtain ⟨rfl, rfl, _⟩ := trodAll_nil r2
  obtain rfl : args = #[v0, v1, v2] := by cases args; simp_all
  obtain ⟨rfl, _⟩ := trodVars_none hV
  obtain ⟨a0, rfl, w0⟩ := open_flat (ks := List.replicate 64 (.int .u16)) (by kernel_rfl) (by kernel_rfl) (hval 0 24 v0 rfl rfl) h0
  obtain ⟨a1, rfl, w1⟩ := open_flat (ks := List.replicate 64 (.int .u16)) (by kernel_rfl) (by kernel_rfl) (hval 1 24 v1 rfl rfl) h1
  obtain ⟨a2, rfl, w2⟩ := open_flat (ks := List.replicate 64 (.int .u16)) (by kernel_rfl) (by kernel_rfl) (hval 2 24 v2 rfl rfl) h2
  refine (vecLaws_walk a0 w0 a1 w1 a2 w2 W).mono fun e W' ⟨he, bel⟩ => ?_
  subst he
  exact ⟨_, rfl, law_post (tb := 4) Try.underlying4 rfl (typesOk_of (by kernel_rfl)) hW' rfl rfl bel⟩
theorem vecLaws_holds : Rows.VecLawsSaid :=
  OpenClaim.holds_of_wide 4 Try.f4 rfl rfl rfl rfl rfl rfl rfl ⟨rfl, rfl, rfl, rfl, rfl⟩ rfl rfl rfl rfl rfl (by kernel_rfl) Try.func4 (by kernel_rfl)
    (of_decide_eq_true (by kernel_rfl)) (by unfold Func.isWrapper; first | (rw [if_pos (by decide +kernel)]; kernel_rfl) | (rw [if_neg (by decide +kernel)]; exact ⟨rfl, rfl⟩))
    (fun os started H enc _ => vecLaws_lifted os started H enc)
end Go.Proofs.Ytceapefjdiphpaa
