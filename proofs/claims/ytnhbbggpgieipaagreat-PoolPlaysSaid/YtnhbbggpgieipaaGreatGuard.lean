/- Guarded operations of a region that keeps its order: a struct or an array loaded; an append of one literal element whose row is known to stay or to be new; a lookup in a region that draws its order. No program in sight but as a variable. -/
import Derived.Test.YtnhbbggpgieipaaGreatGen
namespace Go.Proofs.YtnhbbggpgieipaaGreat
open Go.RowKit

section
variable {P : Program} {ops : Array Oper} {rest : List Oper} {o : Oper} {a : Act} {w : World} {Q : Exit → Act → World → Prop}
theorem wpList_wanted (hw : Region.wanted o (yielded ops a.tmps) = true) (h : ∀ K : Act → World → Prop, (∀ a w, wpList P ops Q rest a w → K a w) → o.wp P a w K Q) : wpList P ops Q (o :: rest) a w :=
  wpList_step fun K hK => by rw [if_pos hw]; exact h K hK
theorem wpList_load_rowG (hw : Region.wanted o (yielded ops a.tmps) = true) (ty : TypeId) (x : Operand) (ho : o.op = .load ty x)
    (g : Nat) (hx : a.eval x = .pointer (some ⟨g, 0, none⟩)) (t : TypeId) (cs : Array Value) (fr : Nat × Nat) (d : TypeDesc) (hg : w.heap[g]? = some (.cells cs t fr))
    (hu : P.underlying ty = some d) (hd : (match d with | .struct _ | .array _ _ => true | _ => false) = true) (hi : (P.info? ty).map (·.size) = some cs.size)
    (h : wpList P ops Q rest (a.put o.dst (.agg cs)) w) : wpList P ops Q (o :: rest) a w :=
  wpList_wanted hw fun _ hK => wp_load_row ty x ho g hx t cs fr d hg hu hd hi (hK _ _ h)
theorem wpList_load_midG (hw : Region.wanted o (yielded ops a.tmps) = true) (ty : TypeId) (x : Operand) (ho : o.op = .load ty x)
    (b k : Nat) (hx : a.eval x = .pointer (some ⟨b, k, none⟩)) (cs : List Value) (d : TypeDesc) (hc : w.rangeAt b k cs)
    (hu : P.underlying ty = some d) (hd : d.isRow = true) (hi : (P.info? ty).map (·.size) = some cs.length)
    (h : wpList P ops Q rest (a.put o.dst (.agg cs.toArray)) w) : wpList P ops Q (o :: rest) a w :=
  wpList_wanted hw fun _ hK => wp_load_mid ty x ho b k hx cs d hc hu hd hi (hK _ _ h)
/-- an append of one literal element: the row's own block alone has turned, and the row stays, or is new -/
theorem wpList_pushF {w0 : World} {d : Option Tmp} {ty : TypeId} {pos : String} {after : Array Edge} {s x : Operand} {t e : TypeId} {size bytes : Nat} (T : SlT P t e size bytes)
    {base : Nat} {v : Value} {n : Nat} {xs : List Value} (hown : w0.ownsRow base e size v n xs) (cs : List Value) (hl : cs.length = size) (h1 : ∀ u ∈ cs, u.oneCell' = true) (hbase : base ≤ w0.heap.size)
    (hb : (n + 1) * bytes ≤ 140737488355328) (hm : n + 1 ≤ maxLen)
    (hs : a.eval s = v) (hx : a.eval x = .slice (some ⟨w0.heap.size, 0, none⟩) 1 1) (hw : w = w0.alloc (.cells cs.toArray e))
    (h : ∀ v' w', w'.ownsRow base e size v' (n + 1) (xs ++ cs) → Kept (fun k => v.ownBlock = some k) w0 w' → (∀ k, v'.ownBlock = some k → v.ownBlock = some k ∨ w0.heap.size ≤ k) → wpList P ops Q rest (a.put d v') w') :
    wpList P ops Q (⟨d, .call { callee := .builtin .append, args := #[s, x], argTypes := #[t, t] }, ty, pos, after, none⟩ :: rest) a w := by
  obtain ⟨i, z, hi, hz, hsz, hby, hzs⟩ := T.hi
  subst hw
  have hown' := hown.alloc (.cells cs.toArray e)
  obtain ⟨v', w', hr, h2, h3, h4⟩ := run_append_stays (P := P) (w := w0.alloc (.cells cs.toArray e)) base t ty e i z size bytes T.ht hi hz hsz hby hzs T.pos v n xs hown' ⟨w0.heap.size, 0, none⟩ 1 1 cs (by omega) (news_new w0 e cs) h1 hm hb (by simp; omega)
  refine wpList_plain rfl fun K hK => ?_
  unfold Oper.wp execOp
  simp only [resolve, invoke, builtin, Sem.run_bind, Sem.run_pure, Result.andThen_ok, List.map_toArray, List.map_cons, List.map_nil, hs, hx, hr]
  refine hK _ _ (h v' w' h2 ?_ fun k hk => (h4 k hk).elim .inl fun e => .inr (by simp at e; omega))
  exact ⟨h3.os, h3.tape, h3.output, Nat.le_trans (by simp) h3.size, fun k hk hn => (h3.block k (by simp; omega) fun e => hn e.symm).trans (Below.heap_alloc w0 _ k hk)⟩
end
/-- a lookup in a region that draws its order -/
theorem wpQuiet_look {P : Program} {ops : Array Oper} {S : World → Prop} {Q : Act → Prop} {rest : List Oper} {tmps : List Value} {ds : List Deferred} {d : Nat} {ty t : TypeId} {m x : Operand} {ok : Bool} {mv kv v : Value} {pos : String} {after : Array Edge} {gd : Option (Nat × Bool)}
    (hr : ∀ w', S w' → (Instr.lookup t mv kv ok).run P w' = .ok v w') (hm : Act.eval ⟨tmps.toArray, ds⟩ m = mv) (hx : Act.eval ⟨tmps.toArray, ds⟩ x = kv)
    (hw : Region.wanted ⟨some d, .lookup t m x ok, ty, pos, after, gd⟩ (yielded ops tmps.toArray) = true)
    (h : wpQuiet P ops S Q rest ⟨(tmps.set d v).toArray, ds⟩) :
    wpQuiet P ops S Q (⟨some d, .lookup t m x ok, ty, pos, after, gd⟩ :: rest) ⟨tmps.toArray, ds⟩ := by
  refine wpQuiet_step fun K hK => ?_
  rw [if_pos hw]
  refine ⟨v, ?_, hK _ ?_⟩
  · intro w hw'
    unfold Oper.quietAt execOp
    simp only [hm, hx, Sem.run_bind, hr w hw', Result.andThen_ok, Sem.run_pure]
    exact ⟨rfl, rfl⟩
  · have e : (Act.put ⟨tmps.toArray, ds⟩ (some d) v) = ⟨(tmps.set d v).toArray, ds⟩ := by simp [Act.put]
    rw [e]; exact h
end Go.Proofs.YtnhbbggpgieipaaGreat
