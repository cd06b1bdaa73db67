/- Blocks known whole; regions that draw their order and whose calls make memory: one walk in the order of the text. No program in sight but as a variable. -/
import Derived.Test.YtmfdggolnfoniaaDoorArr
import Derived.Deep.Quiet
namespace Go.Proofs.YtmfdggolnfoniaaDoor
open Go.RowKit

/-- block g is just these cells, none frozen -/
def Blk (w : World) (g : Nat) (t : TypeId) (cs : Array Value) : Prop := w.heap[g]? = some (.cells cs t (0, 0))
section
variable {w w' : World} {g : Nat} {t : TypeId} {cs : Array Value}
theorem Blk.lt (h : Blk w g t cs) : g < w.heap.size := by
  rcases Nat.lt_or_ge g w.heap.size with hlt | hge
  · exact hlt
  · unfold Blk at h; rw [Array.getElem?_eq_none hge] at h; cases h
theorem Blk.cell (h : Blk w g t cs) (i : Nat) : w.cell? ⟨g, i, none⟩ = cs[i]? := by unfold Blk at h; simp [World.cell?, h]
theorem Blk.fr (h : Blk w g t cs) (i : Nat) : w.frozen? ⟨g, i, none⟩ = false := by unfold Blk at h; simp [World.frozen?, h]
theorem Blk.new (w : World) (t : TypeId) (cs : Array Value) : Blk (w.alloc (.cells cs t)) w.heap.size t cs := heap_alloc_new w _
theorem Blk.newAt {w : World} {n : Nat} (hn : w.heap.size = n) (t : TypeId) (cs : Array Value) : Blk (w.alloc (.cells cs t)) n t cs := hn ▸ heap_alloc_new w _
theorem Blk.drewN (h : Blk w g t cs) (n : Nat) : Blk (w.drewN n) g t cs := h
theorem Blk.alloc (h : Blk w g t cs) (o : Obj) : Blk (w.alloc o) g t cs := (Below.heap_alloc w o g h.lt).trans h
theorem Blk.set_ (h : Blk w g t cs) (i : Nat) (u : Value) : Blk (w.setCell ⟨g, i, none⟩ u) g t (cs.setIfInBounds i u) := by
  unfold Blk at h ⊢
  simp [World.setCell, Array.getElem?_modify, h]
theorem Blk.row (h : Blk w g t cs) (cs' : Array Value) : Blk (w.setRow g cs') g t cs' := setRow_heap w g cs cs' t _ h
theorem Blk.rowFar (h : Blk w g t cs) {k : Nat} (hk : g ≠ k) (cs' : Array Value) : Blk (w.setRow k cs') g t cs := (setRow_other w k g cs' hk).trans h
theorem Blk.far (h : Blk w g t cs) {p : Addr} (hp : g ≠ p.block) (u : Value) : Blk (w.setCell p u) g t cs := (Below.heap_setCell w p u g hp).trans h
theorem Blk.below {B : Nat} (h : Blk w g t cs) (hb : Below B w w') (hg : g < B) : Blk w' g t cs := (hb.block g hg).trans h
theorem Blk.ext (h : Blk w g t cs) (hb : Below w.heap.size w w') : Blk w' g t cs := h.below hb h.lt
end
theorem below_setRow {B : Nat} {a w : World} (h : Below B a w) {g : Nat} (hg : B ≤ g) (cs : Array Value) : Below B a (w.setRow g cs) :=
  h.trans ⟨rfl, rfl, rfl, by simp, fun k hk => setRow_other w g k cs (by omega)⟩

/-- the worlds that have at most more than w0 -/
structure Ext (w0 : World) where
  w : World
  h : Below w0.heap.size w0 w
instance (w0 : World) : Nonempty (Ext w0) := ⟨⟨w0, Below.refl _ _⟩⟩
theorem wp_region_ext {P : Program} {id : Nat} {Q : Exit → Act → World → Prop} {a : Act} {w : World} {l : List Oper} (hm : P.follows .mixedOrders = true) (hB : Region.lexB .any l.toArray = true)
    (h : wpQuiet P l.toArray (fun w' => ∃ z : Ext w, w' = z.w) (fun a' => ∀ w', (∃ z : Ext w, w' = z.w) → Q .normal a' w') l a) : (Code.region id l.toArray true).wp P Q a w :=
  wp_region_quiet (C := fun w' => ∃ z : Ext w, w' = z.w) hm hB ⟨⟨_, (Below.refl _ _).drew⟩, rfl⟩ (by simpa using h)
theorem ext_call {P : Program} {f : FuncId} {args : Array Value} {w0 : World} {z : Ext w0} {v : Value}
    (h : Calls P f args z.w (RetB z.w v)) : Calls P f args z.w fun e w'' => e = .returned v ∧ ∃ z' : Ext w0, w'' = z'.w :=
  h.mono fun _ w' ⟨he, hb⟩ => ⟨he, ⟨w', ext_trans z.h hb⟩, rfl⟩
theorem RetB.of {w w' : World} {v : Value} {e : Ending} (h : Ret w v e w') : RetB w v e w' := ⟨h.1, by rw [← h.2]; exact Below.refl _ _⟩
theorem RetB.ofD {w w' : World} {v : Value} {e : Ending} (h : RetD w v e w') : RetB w v e w' := ⟨h.1, by obtain ⟨_, n, rfl⟩ := h; exact below_drewN (Below.refl _ _) _⟩
theorem ext_ret {P : Program} {f : FuncId} {args : Array Value} {w0 : World} {z : Ext w0} {v : Value}
    (h : Calls P f args z.w (Ret z.w v)) : Calls P f args z.w fun e w'' => e = .returned v ∧ ∃ z' : Ext w0, w'' = z'.w := ext_call (h.mono fun _ _ => RetB.of)
theorem ext_retD {P : Program} {f : FuncId} {args : Array Value} {w0 : World} {z : Ext w0} {v : Value}
    (h : Calls P f args z.w (RetD z.w v)) : Calls P f args z.w fun e w'' => e = .returned v ∧ ∃ z' : Ext w0, w'' = z'.w := ext_call (h.mono fun _ _ => RetB.ofD)

/-- a whole struct or array read in such a region -/
theorem wpQuiet_load_row {P : Program} {ops : Array Oper} {w0 : World} {Q : Act → Prop} {rest : List Oper} {tmps : List Value} {ds : List Deferred} {d : Nat} {ty rt : TypeId} {x : Operand} {pos : String} {after : Array Edge} {gd : Option (Nat × Bool)} {g : Nat} {t : TypeId} {cs : Array Value} {D : TypeDesc}
    (hB : Blk w0 g t cs) (hu : P.underlying ty = some D) (hd : (match D with | .struct _ | .array _ _ => true | _ => false) = true) (hi : (P.info? ty).map (·.size) = some cs.size)
    (hw : Region.wanted ⟨some d, .load ty x, rt, pos, after, gd⟩ (yielded ops tmps.toArray) = true) (hx : Act.eval ⟨tmps.toArray, ds⟩ x = .pointer (some ⟨g, 0, none⟩))
    (h : wpQuiet P ops (fun w' => ∃ z : Ext w0, w' = z.w) Q rest ⟨(tmps.set d (.agg cs)).toArray, ds⟩) :
    wpQuiet P ops (fun w' => ∃ z : Ext w0, w' = z.w) Q (⟨some d, .load ty x, rt, pos, after, gd⟩ :: rest) ⟨tmps.toArray, ds⟩ := by
  refine wpQuiet_step fun K hK => ?_
  rw [if_pos hw]
  refine ⟨.agg cs, ?_, hK _ ?_⟩
  · rintro w ⟨z, rfl⟩
    have hb := hB.ext z.h
    unfold Blk at hb
    unfold Oper.quietAt execOp
    simp only [hx, Instr.loadAt, Instr.sureAddr, Sem.run_bind, Sem.run_pure, Result.andThen_ok, run_loadVar_row z.w g t ty cs (0, 0) D hb hu hd hi]
    exact ⟨rfl, rfl⟩
  · have e : (Act.put ⟨tmps.toArray, ds⟩ (some d) (.agg cs)) = ⟨(tmps.set d (.agg cs)).toArray, ds⟩ := by simp [Act.put]
    rw [e]; exact h
end Go.Proofs.YtmfdggolnfoniaaDoor
