/- An index: a patch that is put: walked. -/
import Derived.Test.YtnhbbggpgieipaaGreatIdxd
namespace Go.Proofs.YtnhbbggpgieipaaGreat
open Go.RowKit
open Go.ChangeMaps (setBlock)

theorem Blk.setCells {g : Nat} {t : TypeId} : ∀ (vs : List Value) (o : Nat) (w : World) (cs : Array Value), Blk w g t cs → ∃ cs', Blk (w.setCells g o vs) g t cs' ∧ cs'.size = cs.size ∧ ∀ j, j < cs.size → cs'[j]? = if o ≤ j ∧ j < o + vs.length then vs[j - o]? else cs[j]?
  | [], o, w, cs, h => ⟨cs, h, rfl, fun j _ => by rw [if_neg (by simp only [List.length_nil]; omega)]⟩
  | v :: vs, o, w, cs, h => by
    obtain ⟨cs', h1, h2, h3⟩ := Blk.setCells vs (o + 1) (w.setCell ⟨g, o, none⟩ v) _ (h.set_ o v)
    refine ⟨cs', h1, by rw [h2]; simp, fun j hj => ?_⟩
    rw [h3 j (by simpa using hj)]
    by_cases hc : o + 1 ≤ j ∧ j < o + 1 + vs.length
    · rw [if_pos hc, if_pos (by simp only [List.length_cons]; omega)]
      obtain ⟨m, rfl⟩ : ∃ m, j = o + 1 + m := ⟨j - (o + 1), by omega⟩
      rw [show o + 1 + m - (o + 1) = m by omega, show o + 1 + m - o = m + 1 by omega]; rfl
    · rw [if_neg hc]
      by_cases ho : j = o
      · subst ho
        rw [if_pos (by simp only [List.length_cons]; omega), Array.getElem?_setIfInBounds_self_of_lt hj]; simp
      · rw [if_neg (by simp only [List.length_cons]; omega), Array.getElem?_setIfInBounds_ne (fun e => ho e.symm)]
theorem Kept.setCells {F : Nat → Prop} {a : World} {g : Nat} (hg : F g ∨ a.heap.size ≤ g) : ∀ (vs : List Value) (o : Nat) (w : World), Kept F a w → Kept F a (w.setCells g o vs)
  | [], _, _, h => h
  | _ :: vs, o, _, h => Kept.setCells hg vs (o + 1) _ (h.setCell (p := ⟨g, o, none⟩) hg _)
theorem setCells_idx {w : World} {g gm : Nat} {t : TypeId} {v v' : List Int} {s : Value} (hv : VecOk v) (hv' : VecOk v') (h : Blk w g t (idxC v s gm)) : Blk (w.setCells g 0 (vecA v').toList) g t (idxC v' s gm) := by
  obtain ⟨cs', h1, h2, h3⟩ := Blk.setCells (vecA v').toList 0 w _ h
  have e : cs' = idxC v' s gm := by
    apply Array.ext_getElem?
    intro j
    rw [idxC_size hv] at h2 h3
    have hl : (vecA v').toList.length = 64 := by rw [Array.length_toList, vecA_size, hv'.len]
    rcases Nat.lt_or_ge j 66 with hj | hj
    · rw [h3 j hj, hl]
      by_cases hc : j < 64
      · rw [if_pos (by omega)]
        unfold idxC
        rw [Array.getElem?_append_left (by rw [vecA_size, hv'.len]; exact hc)]
        simp
      · rw [if_neg (by omega)]
        unfold idxC
        rw [Array.getElem?_append_right (by rw [vecA_size, hv.len]; omega), Array.getElem?_append_right (by rw [vecA_size, hv'.len]; omega), vecA_size, vecA_size, hv.len, hv'.len]
    · rw [Array.getElem?_eq_none (by omega), Array.getElem?_eq_none (by rw [idxC_size hv']; omega)]
  rw [← e]; exact h1
theorem set_idx {w : World} {g gm : Nat} {t : TypeId} {v : List Int} {s s' : Value} (hv : VecOk v) (h : Blk w g t (idxC v s gm)) : Blk (w.setCell ⟨g, 64, none⟩ s') g t (idxC v s' gm) := by
  have := h.set_ 64 s'
  have e : (idxC v s gm).setIfInBounds 64 s' = idxC v s' gm := by
    unfold idxC
    rw [Array.setIfInBounds_append_right (by rw [vecA_size, hv.len]; exact Nat.le_refl _), vecA_size, hv.len]; rfl
  rw [e] at this
  exact this
theorem wpList_mapput {P : Program} {ops : Array Oper} {rest : List Oper} {a : Act} {w w' : World} {Q : Exit → Act → World → Prop} {d : Option Tmp} {ty t : TypeId} {pos : String} {after : Array Edge} {m x y : Operand} {mv kv v : Value} (hm : a.eval m = mv) (hx : a.eval x = kv) (hy : a.eval y = v) (hr : (Instr.mapUpdate t mv kv v).run P w = .ok () w')
    (h : wpList P ops Q rest (a.put d undef) w') : wpList P ops Q (⟨d, .mapUpdate t m x y, ty, pos, after, none⟩ :: rest) a w :=
  wpList_plain rfl fun _ hK => by
    unfold Oper.wp execOp
    simp only [hm, hx, hy, Sem.run_bind, hr, Result.andThen_ok, Sem.run_pure]
    exact hK _ _ h
end Go.Proofs.YtnhbbggpgieipaaGreat
