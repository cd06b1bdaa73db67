/- Regions that draw their order, step by step: more operations. No program in sight but as a variable. -/
import Derived.Test.YtnhbbggpgieipaaGreatGuard
import Derived.Test.YtnhbbggpgieipaaGreatGen
namespace Go.Proofs.YtnhbbggpgieipaaGreat
open Go.RowKit

section
variable {ρ : Operand → Value} {d : Option Tmp} {s ty : TypeId} {x y : Operand} {pos : String} {after : Array Edge} {gd : Option (Nat × Bool)} {v pv iv : Value} {P : Program} {w : World}
theorem exNil {a : Addr} (hx : ρ x = .pointer (some a)) : (execOp ρ ⟨d, .nilCheck x, ty, pos, after, gd⟩).run P w = .ok (.value (.pointer (some a))) w := by
  unfold execOp; simp only [hx, Sem.run_pure]
theorem exMove (hx : ρ x = v) : (execOp ρ ⟨d, .move x, ty, pos, after, gd⟩).run P w = .ok (.value v) w := by
  unfold execOp; simp only [hx, Sem.run_pure]
theorem exAssign (hx : ρ x = v) : (execOp ρ ⟨d, .assign x, ty, pos, after, gd⟩).run P w = .ok (.value v) w := by
  unfold execOp; simp only [hx, Sem.run_pure]
theorem exPickT {z : Operand} (hx : ρ x = .bool true) (hy : ρ y = v) : (execOp ρ ⟨d, .pick x y z, ty, pos, after, gd⟩).run P w = .ok (.value v) w := by
  unfold execOp; simp only [hx, hy, asBool, Sem.run_bind, Sem.run_pure, Result.andThen_ok, if_true]
theorem exPickF {z : Operand} (hx : ρ x = .bool false) (hy : ρ z = v) : (execOp ρ ⟨d, .pick x y z, ty, pos, after, gd⟩).run P w = .ok (.value v) w := by
  unfold execOp; simp only [hx, hy, asBool, Sem.run_bind, Sem.run_pure, Result.andThen_ok, Bool.false_eq_true, if_false]
theorem exBin {op : BinOp} {t rt : TypeId} {xv yv : Value} (hx : ρ x = xv) (hy : ρ y = yv) (hg : (eqGuard op t x y xv yv).run P w = .ok () w) (hr : (binOp op t xv yv).run P w = .ok v w) : (execOp ρ ⟨d, .binOp op t x y rt, ty, pos, after, gd⟩).run P w = .ok (.value v) w := by
  unfold execOp; simp only [hx, hy, Sem.run_bind, hg, hr, Result.andThen_ok, Sem.run_pure]
theorem exNot {t : TypeId} {b : Bool} (hx : ρ x = .bool b) : (execOp ρ ⟨d, .unOp .not t x, ty, pos, after, gd⟩).run P w = .ok (.value (.bool (!b))) w := by
  unfold execOp; simp [hx, Op.unary]
theorem exLen {t : TypeId} {A : Option Addr} {n c : Nat} {D : TypeId} (ht : P.underlying t = some (.slice D)) (hx : ρ x = .slice A n c) : (execOp ρ ⟨d, .call { callee := .builtin .len, args := #[x], argTypes := #[t] }, ty, pos, after, gd⟩).run P w = .ok (.value (.int .i64 n)) w := by
  unfold execOp
  simp [resolve, invoke, builtin, hx, Builtin.len_, run_underlying ht, goInt]
theorem exMid {b o : Nat} {cs : List Value} {D : TypeDesc} (hx : ρ x = .pointer (some ⟨b, o, none⟩)) (hc : w.rangeAt b o cs) (hu : P.underlying s = some D) (hd : D.isRow = true) (hi : (P.info? s).map (·.size) = some cs.length) :
    (execOp ρ ⟨d, .load s x, ty, pos, after, gd⟩).run P w = .ok (.value (.agg cs.toArray)) w := by
  unfold execOp; simp only [hx, Instr.loadAt, Instr.sureAddr, Sem.run_bind, Sem.run_pure, Result.andThen_ok, run_loadVar_mid w b o s cs D hc hu hd hi]
theorem exLook {t : TypeId} {m : Operand} {mv kv : Value} {ok : Bool} (hm : ρ m = mv) (hx : ρ x = kv) (hr : (Instr.lookup t mv kv ok).run P w = .ok v w) : (execOp ρ ⟨d, .lookup t m x ok, ty, pos, after, gd⟩).run P w = .ok (.value v) w := by
  unfold execOp; simp only [hm, hx, Sem.run_bind, hr, Result.andThen_ok, Sem.run_pure]
end
/-- an operation that its guard leaves out is taken first -/
theorem takeSkip {P : Program} {ops : Array Oper} {Q : Exit → Act → World → Prop} {S : World → Prop} {a : Act} {w : World} {d : Tmp} {op : Op} {ty : TypeId} {pos : String} {after : Array Edge} {gd : Option (Nat × Bool)} {i fuel : Nat} {ls : Array Bool} {md : Region.Mode} (hi : ops[i]? = some ⟨some d, op, ty, pos, after, gd⟩)
    (hs : Region.noSelect ops = true) (hf : Region.free md ops ls i = true) (hr : (Region.ready md ops ls).contains i = true) (hQ : ∀ c (a : Act) (w : World), Q (.panic c) (a.put (some d) undef) w → Q (.panic c) a w)
    (hw : Region.wanted ⟨some d, op, ty, pos, after, gd⟩ (yielded ops a.tmps) = false) (hS : S w)
    (h : wpAnyH P md ops Q S fuel (ls.setIfInBounds i true) (a.put (some d) undef) w) : wpAnyH P md ops Q S (fuel + 1) ls a w :=
  wpAnyH_take (oi := ⟨some d, op, ty, pos, after, gd⟩) hi hs hf hr hQ (.inr ⟨hw, rfl⟩) hS h
section
variable {P : Program} {Q : Exit → Act → World → Prop} {K : Act → World → Prop} {a : Act} {w : World} {d : Option Tmp} {ty : TypeId} {pos : String} {after : Array Edge} {gd : Option (Nat × Bool)}
theorem wp_loadedM {s : TypeId} {x : Operand} {b o : Nat} {cs : List Value} {D : TypeDesc} (hx : a.eval x = .pointer (some ⟨b, o, none⟩)) (hc : w.rangeAt b o cs) (hu : P.underlying s = some D) (hd : D.isRow = true) (hi : (P.info? s).map (·.size) = some cs.length)
    (h : K (a.put d (.agg cs.toArray)) w) : Oper.wp P ⟨d, .load s x, ty, pos, after, gd⟩ a w K Q := by
  unfold Oper.wp
  rw [exMid hx hc hu hd hi]
  exact h
/-- a slice literal of one struct -/
theorem wp_lit1 {t e : TypeId} {size bytes : Nat} (T : SlT P t e size bytes) {x : Operand} {cs : List Value} (hl : cs.length = size) (hs : size ≤ 16777216) (hx : a.eval x = .agg cs.toArray)
    (h : K (a.put d (.slice (some ⟨w.heap.size, 0, none⟩) 1 1)) (w.alloc (.cells cs.toArray e))) : Oper.wp P ⟨d, .buildSlice t 1 #[(0, x)], ty, pos, after, gd⟩ a w K Q := by
  obtain ⟨i, z, hi, hz, hsz, hby, hzs⟩ := T.hi
  have hpos := T.pos
  refine wp_buildSlice t e 1 #[(0, x)] rfl cs.toArray i z T.ht hi hz (by rw [hsz]; omega) (by rw [hsz]; omega) ?_ h
  have := fill_vals hpos [cs] (by simpa using hl) ((Array.range (1 * size)).map (z.cells[· % z.cells.size]!)) (by simp)
  rw [hsz]
  simpa [hx] using this
/-- an append of it: the row's own block alone has turned, and the row stays, or is new -/
theorem wp_pushF {w0 : World} {s x : Operand} {t e : TypeId} {size bytes : Nat} (T : SlT P t e size bytes)
    {base : Nat} {v : Value} {n : Nat} {xs : List Value} (hown : w0.ownsRow base e size v n xs) (cs : List Value) (hl : cs.length = size) (h1 : ∀ u ∈ cs, u.oneCell' = true) (hbase : base ≤ w0.heap.size)
    (hb : (n + 1) * bytes ≤ 140737488355328) (hm : n + 1 ≤ maxLen)
    (hs : a.eval s = v) (hx : a.eval x = .slice (some ⟨w0.heap.size, 0, none⟩) 1 1) (hw : w = w0.alloc (.cells cs.toArray e))
    (h : ∀ v' w', w'.ownsRow base e size v' (n + 1) (xs ++ cs) → Kept (fun k => v.ownBlock = some k) w0 w' → (∀ k, v'.ownBlock = some k → v.ownBlock = some k ∨ w0.heap.size ≤ k) → K (a.put d v') w') :
    Oper.wp P ⟨d, .call { callee := .builtin .append, args := #[s, x], argTypes := #[t, t] }, ty, pos, after, gd⟩ a w K Q := by
  obtain ⟨i, z, hi, hz, hsz, hby, hzs⟩ := T.hi
  subst hw
  have hown' := hown.alloc (.cells cs.toArray e)
  obtain ⟨v', w', hr, h2, h3, h4⟩ := run_append_stays (P := P) (w := w0.alloc (.cells cs.toArray e)) base t ty e i z size bytes T.ht hi hz hsz hby hzs T.pos v n xs hown' ⟨w0.heap.size, 0, none⟩ 1 1 cs (by omega) (news_new w0 e cs) h1 hm hb (by simp; omega)
  unfold Oper.wp execOp
  simp only [resolve, invoke, builtin, Sem.run_bind, Sem.run_pure, Result.andThen_ok, List.map_toArray, List.map_cons, List.map_nil, hs, hx, hr]
  refine h v' w' h2 ?_ fun k hk => (h4 k hk).elim .inl fun e => .inr (by simp at e; omega)
  exact ⟨h3.os, h3.tape, h3.output, Nat.le_trans (by simp) h3.size, fun k hk hn => (h3.block k (by simp; omega) fun e => hn e.symm).trans (Below.heap_alloc w0 _ k hk)⟩
end
end Go.Proofs.YtnhbbggpgieipaaGreat
