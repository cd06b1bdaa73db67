/- Regions that draw their order, step by step: what yields in whatever world may be taken first at any time. No program in sight but as a variable. -/
import Derived.Test.YtmfdggolnfoniaaGen
namespace Go.Proofs.Ytmfdggolnfoniaa
open Go.RowKit

section
variable {P : Program} {ops : Array Oper} {Q : Exit → Act → World → Prop} {md : Region.Mode} {S : World → Prop} {Z : List Nat}
theorem wpAnyZ_light {i : Nat} {oi : Oper} {v : Value} (hi : ops[i]? = some oi) (hsel : ∀ (j : Nat) (o : Oper) cs b, ops[j]? = some o → o.op ≠ .select cs b)
    (hQ : ∀ c a w, Q (.panic c) (a.put oi.dst v) w → Q (.panic c) a w) (hiZ : i ∉ Z) :
    ∀ (fuel : Nat) (listed : Array Bool) (a : Act) (w : World),
      (∀ j oj, ops[j]? = some oj → j ≠ i → listed.getD j true = false → (∀ e ∈ oj.after, Region.binds md e = true → e.on ≠ i) → oi.apart ops oj = true) →
      i ∈ Region.ready md ops listed → Yields P ops oi v a → (cleanZ Z listed = true → S w) →
      wpAnyZ P md ops Q S Z fuel (listed.setIfInBounds i true) (a.put oi.dst v) w → wpAnyZ P md ops Q S Z (fuel + 1) listed a w := by
  intro fuel
  induction fuel with
  | zero =>
    intro listed a w _ hr hy hS H
    refine ⟨fun h => (by rw [h] at hr; cases hr), fun j hj => ?_⟩
    by_cases hji : j = i
    · subst hji; exact hy.wpOp hi ⟨fun h => hS ((cleanZ_set hiZ).1 h), H⟩
    · have := ready_mono hj hji
      rw [H.1] at this
      cases this
  | succ fuel ih =>
    intro listed a w hfree hr hy hS H
    refine ⟨fun h => (by rw [h] at hr; cases hr), fun j hj => ?_⟩
    by_cases hji : j = i
    · subst hji; exact hy.wpOp hi ⟨fun h => hS ((cleanZ_set hiZ).1 h), H⟩
    · have h1 := H.2 j (ready_mono hj hji)
      obtain ⟨hjun, oj, hoj, hall⟩ := mem_ready.1 hj
      have hun := (mem_ready.1 hr).1
      have hnot : ∀ e ∈ oj.after, Region.binds md e = true → e.on ≠ i := fun e he hb heq => by
        have h1 := hall e he hb
        rw [heq, getD_both hun] at h1
        cases h1
      have h2 := wpOp_putIf (S := fun _ => True) hoj (hfree j oj hoj hji hjun hnot) (fun cs b => hsel i oi cs b hi) (fun cs b => hsel j oj cs b hoj) hQ hy.yieldsIf h1
      have hfree' : ∀ k ok, ops[k]? = some ok → k ≠ i → (listed.setIfInBounds j true).getD k true = false →
          (∀ e ∈ ok.after, Region.binds md e = true → e.on ≠ i) → oi.apart ops ok = true := fun k ok hk hki hun hno => by
        refine hfree k ok hk hki ?_ hno
        by_cases hjk : j = k
        · subst hjk; exact hjun
        · rw [getD_set_ne true hjk] at hun; exact hun
      have hcl : cleanZ Z (listed.setIfInBounds j true) = true → cleanZ Z ((listed.setIfInBounds i true).setIfInBounds j true) = true := fun h => by
        rw [Array.setIfInBounds_comm _ _ (Ne.symm hji)]
        exact (cleanZ_set hiZ).2 h
      refine wpOp_mono (fun a' w' h3 => ⟨fun h => h3.2.1 (hcl h), ih (listed.setIfInBounds j true) a' w' hfree' (ready_mono hr (Ne.symm hji)) ?_ (fun h => h3.2.1 (hcl h)) ?_⟩) h2
      · rcases h3.1 with ⟨p, q⟩ | q
        · exact .inl ⟨p, fun w => q w trivial⟩
        · exact .inr q
      · rw [Array.setIfInBounds_comm _ _ hji]
        exact h3.2.2
variable {a : Act} {w : World} {d : Tmp} {ty t : TypeId} {x : Operand} {pos : String} {after : Array Edge} {gd : Option (Nat × Bool)} {v : Value} {i fuel : Nat} {ls : Array Bool}
theorem zLight {op : Op} (hi : ops[i]? = some ⟨some d, op, ty, pos, after, gd⟩)
    (hs : Region.noSelect ops = true) (hf : Region.free md ops ls i = true) (hr : (Region.ready md ops ls).contains i = true) (hz : (!Z.contains i) = true) (hQ : ∀ c (a : Act) (w : World), Q (.panic c) (a.put (some d) v) w → Q (.panic c) a w)
    (hw : Region.wanted ⟨some d, op, ty, pos, after, gd⟩ (yielded ops a.tmps) = true) (hx : ∀ w', (execOp a.eval ⟨some d, op, ty, pos, after, gd⟩).run P w' = .ok (.value v) w') (hS : cleanZ Z ls = true → S w)
    (h : wpAnyZ P md ops Q S Z fuel (ls.setIfInBounds i true) (a.put (some d) v) w) : wpAnyZ P md ops Q S Z (fuel + 1) ls a w :=
  wpAnyZ_light (oi := ⟨some d, op, ty, pos, after, gd⟩) hi (Region.noSelect_spec hs) hQ (by simpa using hz) fuel ls a w (Region.free_spec hi hf) (by simpa using hr) (.inl ⟨hw, hx⟩) hS h
end
end Go.Proofs.Ytmfdggolnfoniaa
