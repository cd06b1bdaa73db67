/- An element of a slice of structs or arrays, read as a whole. No program in sight but as a variable. -/
import Derived.Test.YtmfdggolnfoniaaDoorMaps
import Derived.Test.YtmfdggolnfoniaaDoorPush
import Derived.Deep.MidRow
import Derived.Laws.StructEq
namespace Go.Proofs.YtmfdggolnfoniaaDoor
open Go.RowKit

theorem flatMap_get {α : Type} (enc : α → List Value) {size : Nat} (l : List α) (henc : ∀ x ∈ l, (enc x).length = size) (k j : Nat) (hk : k < l.length) (hj : j < size) : (l.flatMap enc)[k * size + j]? = (enc l[k])[j]? := by
  have h := flatten_get (c := size) (l.map enc) (fun x hx => by obtain ⟨y, hy, rfl⟩ := List.mem_map.1 hx; exact henc y hy) k j hj
  rw [← List.flatMap_def] at h
  rw [h]; simp [hk]
theorem flatMap_len {α : Type} (enc : α → List Value) {size : Nat} (l : List α) (henc : ∀ x ∈ l, (enc x).length = size) : (l.flatMap enc).length = l.length * size := by
  rw [List.flatMap_def, flatten_len (c := size) _ (fun x hx => by obtain ⟨y, hy, rfl⟩ := List.mem_map.1 hx; exact henc y hy)]
  simp
/-- the element k of a slice -/
theorem Sl.rowAt {α : Type} {enc : α → List Value} {w : World} {B size n : Nat} {A : Option Addr} {l : List α} (h : Sl w B size A n (l.flatMap enc)) (hn : l.length = n) (henc : ∀ x ∈ l, (enc x).length = size) {k : Nat} (hk : k < l.length) :
    ∃ b o, A = some ⟨b, o, none⟩ ∧ b < B ∧ w.rangeAt b (o + k * size) (enc l[k]) := by
  obtain ⟨b, o, e, hb, hc⟩ := h.2 (by omega)
  refine ⟨b, o, e, hb, fun j v hj => ?_⟩
  have hjl : j < size := by
    have := henc l[k] (List.getElem_mem hk)
    have := (List.getElem?_eq_some_iff.1 hj).1
    omega
  have hlt : k * size + j < n * size := by
    have : k * size + size ≤ n * size := by rw [← Nat.succ_mul]; exact Nat.mul_le_mul_right _ (by omega)
    omega
  rw [Nat.add_assoc, hc _ hlt, flatMap_get enc l henc k j hk hjl]
  exact hj
theorem rangeAt_keep {w w' : World} {b o : Nat} {cs : List Value} (h : w.rangeAt b o cs) (hk : ∀ j, w'.cell? ⟨b, j, none⟩ = w.cell? ⟨b, j, none⟩) : w'.rangeAt b o cs := fun j v hv => (hk _).trans (h j v hv)
theorem rangeAt_below {w w' : World} {b o B : Nat} {cs : List Value} (h : w.rangeAt b o cs) (hb : Below B w w') (hB : b < B) : w'.rangeAt b o cs := rangeAt_keep h fun j => hb.cell (p := ⟨b, j, none⟩) hB
/-- a whole struct or array out of the middle of a block, read in a region that draws its order and leaves what S says -/
theorem wpQuiet_load_mid {P : Program} {ops : Array Oper} {S : World → Prop} {Q : Act → Prop} {rest : List Oper} {tmps : List Value} {ds : List Deferred} {d : Nat} {ty rt : TypeId} {x : Operand} {pos : String} {after : Array Edge} {gd : Option (Nat × Bool)} {b o : Nat} {cs : List Value} {D : TypeDesc}
    (hB : ∀ w', S w' → w'.rangeAt b o cs) (hu : P.underlying ty = some D) (hd : D.isRow = true) (hi : (P.info? ty).map (·.size) = some cs.length)
    (hw : Region.wanted ⟨some d, .load ty x, rt, pos, after, gd⟩ (yielded ops tmps.toArray) = true) (hx : Act.eval ⟨tmps.toArray, ds⟩ x = .pointer (some ⟨b, o, none⟩))
    (h : wpQuiet P ops S Q rest ⟨(tmps.set d (.agg cs.toArray)).toArray, ds⟩) :
    wpQuiet P ops S Q (⟨some d, .load ty x, rt, pos, after, gd⟩ :: rest) ⟨tmps.toArray, ds⟩ := by
  refine wpQuiet_step fun K hK => ?_
  rw [if_pos hw]
  refine ⟨.agg cs.toArray, ?_, hK _ ?_⟩
  · intro w hw'
    unfold Oper.quietAt execOp
    simp only [hx, Instr.loadAt, Instr.sureAddr, Sem.run_bind, Sem.run_pure, Result.andThen_ok, run_loadVar_mid w b o ty cs D (hB w hw') hu hd hi]
    exact ⟨rfl, rfl⟩
  · have e : (Act.put ⟨tmps.toArray, ds⟩ (some d) (.agg cs.toArray)) = ⟨(tmps.set d (.agg cs.toArray)).toArray, ds⟩ := by simp [Act.put]
    rw [e]; exact h
theorem rangeAt_drewN2 {w0 : World} {q b o : Nat} {cs : List Value} (h : w0.rangeAt b o cs) : ∀ w', (∃ n, w' = (w0.drewN q).drewN n) → w'.rangeAt b o cs := by
  rintro _ ⟨n, rfl⟩; exact h
theorem rangeAt_drewN1 {w0 : World} {b o : Nat} {cs : List Value} (h : w0.rangeAt b o cs) : ∀ w', (∃ n, w' = w0.drewN n) → w'.rangeAt b o cs := by
  rintro _ ⟨n, rfl⟩; exact h
theorem flatMap_map {α β : Type} (f : α → β) (l : List α) : l.flatMap (fun x => [f x]) = l.map f := by
  induction l with
  | nil => rfl
  | cons x l ih => simp [ih]
end Go.Proofs.YtmfdggolnfoniaaDoor
