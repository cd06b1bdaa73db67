/- VecPairs: of any two vectors what both have, either has, and one lacks, is as the reference says. No conditions. -/
import Derived.Test.YtceapefjdiphpaaVecd
import Derived.Test.YtceapefjdiphpaaLift
namespace Go.Proofs.Ytceapefjdiphpaa
open Go.ChangeShapes Go.WideShapes Go.ChangeAt Go.RowKit

set_option maxRecDepth 100000 in
set_option maxHeartbeats 1000000 in
theorem vecPairs_main (a b : List Int) (ha : VecOk a) (hb : VecOk b) (w : World) : Calls Try.prog 5 #[.agg (vecA a), .agg (vecA b)] w (RetB w (.bool true)) := by
  have H1 := Lib.hid (fun w0 => join_any a b ha hb w0)
  have H2 := Lib.hid (fun w0 => rjoin_any a b ha hb w0)
  have H3 := Lib.hid (fun w0 => meet_any a b ha hb w0)
  have H4 := Lib.hid (fun w0 => rmeet_any a b ha hb w0)
  have H5 := Lib.hid (fun w0 => within_any a b ha hb w0)
  have H6 := Lib.hid (fun w0 => rwithin_any a b ha hb w0)
  have H7 := Lib.hid (fun w0 => lack_any a b ha hb w0)
  have H8 := Lib.hid (fun w0 => rlack_any a b ha hb w0)
  have H9 := Lib.hid (fun w0 => works12 w0)
  have e1 : ∀ w, (binOp .eql 24 (.agg (vecA (joinV a b))) (.agg (vecA (joinV a b)))).run Try.prog w = .ok (.bool true) w := fun w => by rw [eql_vec _ _ (ha.join hb) (ha.join hb), decide_eq_true rfl]
  have e2 : ∀ w, (binOp .eql 24 (.agg (vecA (meetV a b))) (.agg (vecA (meetV a b)))).run Try.prog w = .ok (.bool true) w := fun w => by rw [eql_vec _ _ (ha.meet hb) (ha.meet hb), decide_eq_true rfl]
  have hs1 : Hid ((vecA a).size = 64) := by rw [Hid, vecA_size]; exact ha.len
  have hs2 : Hid ((vecA b).size = 64) := by rw [Hid, vecA_size]; exact hb.len
  clear ha hb
  generalize joinV a b = j at *
  generalize meetV a b = m at *
  generalize withinV a b = wi at *
  generalize lackV a b = la at *
  have B0 : Hid (Below w.heap.size w ((w.alloc (.cells (vecA a) 24)).alloc (.cells (vecA b) 24))) := ((Below.refl _ _).alloc (Nat.le_refl _) _).alloc (by simp) _
  have K1 : Hid (Blk ((w.alloc (.cells (vecA a) 24)).alloc (.cells (vecA b) 24)) w.heap.size 24 (vecA a)) := (Blk.new _ _ _).alloc _
  have K2 : Hid (Blk ((w.alloc (.cells (vecA a) 24)).alloc (.cells (vecA b) 24)) (w.heap.size + 1) 24 (vecA b)) := Blk.newAt (by simp) _ _
  go_enter Try.func5, Try.ntmps5
  go_wp2_with fail
  generalize ((w.alloc (.cells (vecA a) 24)).alloc (.cells (vecA b) 24)) = w0 at *
  refine wp_region_ext mixed (by kernel_rfl) ?_
  repeat (first
    | (refine wpQuiet_load_row K1.out under64 rfl (by rw [hs1.out]; exact info64) rfl rfl ?_; simp only [List.set_cons_succ, List.set_cons_zero])
    | (refine wpQuiet_load_row K2.out under64 rfl (by rw [hs2.out]; exact info64) rfl rfl ?_; simp only [List.set_cons_succ, List.set_cons_zero])
    | go_big_quiet_step ((first | (go_at_call 19; with_reducible exact ext_call (H1.out _)) | (go_at_call 22; with_reducible exact ext_call (H2.out _)) | (go_at_call 20; with_reducible exact ext_call (H3.out _)) | (go_at_call 23; with_reducible exact ext_call (H4.out _)) | (go_at_call 21; with_reducible exact ext_call (H5.out _)) | (go_at_call 24; with_reducible exact ext_call (H6.out _)) | (go_at_call 25; with_reducible exact ext_call (H7.out _)) | (go_at_call 26; with_reducible exact ext_call (H8.out _)) | (go_at_call 13; with_reducible exact ext_call (H9.out _)))))
  refine wpQuiet_nil ?_
  rintro _ ⟨z, rfl⟩
  go_wp2
  go_ret
  exact ⟨rfl, B0.out.trans (z.h.mono B0.out.size)⟩

theorem vecPairs_walk (ca : List Value) (ha : FlatOk (List.replicate 64 (.int .u16)) ca) (cb : List Value) (hb : FlatOk (List.replicate 64 (.int .u16)) cb) (w : World) :
    Calls Try.prog 5 #[.agg ca.toArray, .agg cb.toArray] w (RetB w (.bool true)) := by
  obtain ⟨a, rfl, la, wa⟩ := flatOk_ints 64 ca ha
  have va := vecOk_of la wa
  obtain ⟨b, rfl, lb, wb⟩ := flatOk_ints 64 cb hb
  have vb := vecOk_of lb wb
  exact vecPairs_main a b va vb w

set_option maxRecDepth 100000 in
theorem vecPairs_lifted (os : Os) (started : os.Started) (H : Type) (enc : TypeId × Value → H) :
    ReturnsInHanded {} Try.checked os 5 .any (Rows.vecPairsSpec.pre6 enc Try.prog Try.f5 Rows.vecPairsRow.domain false) (Rows.vecPairsSpec.post enc Try.prog Try.f5 false true false false) := by
  refine returnsInHanded_of_change (C := Try.checked) own started (by kernel_rfl) Try.func5
    (ChangeSpec.witness6 (enc := enc) (C := Try.checked) false ⟨#[], #[.agg (vecA vec0), .agg (vecA vec0)], []⟩ 8 (by kernel_rfl) (by kernel_rfl) (by kernel_rfl) (by kernel_rfl)) ?_
  intro W base args ds gs before hval0 hW _ _
  have hval : ∀ (j : Nat) t v, Try.f5.params[j]? = some t → args[j]? = some v → Value.okWide Try.prog W .any base t v := hval0
  have hW' := hW
  obtain ⟨p, q, hA0, hV, hps, hfz, hnd⟩ := hW
  have hA : DataW.TrodAll enc Try.prog W 0 (fun _ => true) true Try.f5.params.toList args.toList ds p := hA0
  rw [Try.params5] at hA hval
  obtain ⟨v0, vs0, d0, ds0, p0, q0, hargs, rfl, hp0, h0, r0⟩ := trodAll_cons hA
  obtain ⟨v1, vs1, d1, ds1, p1, q1, rfl, rfl, hp1, h1, r1⟩ := trodAll_cons r0
  obtain ⟨rfl, rfl, _⟩ := trodAll_nil r1
  obtain rfl : args = #[v0, v1] := by cases args; simp_all
  obtain ⟨rfl, _⟩ := trodVars_none hV
  obtain ⟨a0, rfl, w0⟩ := open_flat (ks := List.replicate 64 (.int .u16)) (by kernel_rfl) (by kernel_rfl) (hval 0 24 v0 rfl rfl) h0
  obtain ⟨a1, rfl, w1⟩ := open_flat (ks := List.replicate 64 (.int .u16)) (by kernel_rfl) (by kernel_rfl) (hval 1 24 v1 rfl rfl) h1
  refine (vecPairs_walk a0 w0 a1 w1 W).mono fun e W' ⟨he, bel⟩ => ?_
  subst he
  exact ⟨_, rfl, law_post (tb := 4) Try.underlying4 rfl (typesOk_of (by kernel_rfl)) hW' rfl rfl bel⟩
theorem vecPairs_holds : Rows.VecPairsSaid :=
  OpenClaim.holds_of_wide 5 Try.f5 rfl rfl rfl rfl rfl rfl rfl ⟨rfl, rfl, rfl, rfl, rfl⟩ rfl rfl rfl rfl rfl (by kernel_rfl) Try.func5 (by kernel_rfl)
    (of_decide_eq_true (by kernel_rfl)) (by unfold Func.isWrapper; first | (rw [if_pos (by decide +kernel)]; kernel_rfl) | (rw [if_neg (by decide +kernel)]; exact ⟨rfl, rfl⟩))
    (fun os started H enc _ => vecPairs_lifted os started H enc)
end Go.Proofs.Ytceapefjdiphpaa
