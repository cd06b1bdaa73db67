/- Texts of general use, one behind another. -/
import Derived.Test.YtihggkmjalofiaaGreatDoorGen
import Derived.Test.YtihggkmjalofiaaGreatDoorIdxa
import Derived.Test.YtihggkmjalofiaaGreatDoorLists
import Derived.Test.YtihggkmjalofiaaGreatDoorPaws
import Derived.Deep.DeepCutAuto

/- Guarded operations of a region that keeps its order: a struct or an array loaded; an append of one literal element whose row is known to stay or to be new; a lookup in a region that draws its order. No program in sight but as a variable. -/
namespace Go.Proofs.YtihggkmjalofiaaGreatDoor
open Go.RowKit

section
variable {P : Program} {ops : Array Oper} {rest : List Oper} {o : Oper} {a : Act} {w : World} {Q : Exit → Act → World → Prop}
theorem wpList_wanted (hw : Region.wanted o (yielded ops a.tmps) = true) (h : ∀ K : Act → World → Prop, (∀ a w, wpList P ops Q rest a w → K a w) → o.wp P a w K Q) : wpList P ops Q (o :: rest) a w :=
  wpList_step fun K hK => by rw [if_pos hw]; exact h K hK
theorem wpList_load_rowG (hw : Region.wanted o (yielded ops a.tmps) = true) (ty : TypeId) (x : Operand) (ho : o.op = .load ty x)
    (g : Nat) (hx : a.eval x = .pointer (some ⟨g, 0, none⟩)) (t : TypeId) (cs : Array Value) (fr : Nat × Nat) (d : TypeDesc) (hg : w.heap[g]? = some (.cells cs t fr))
    (hu : P.underlying ty = some d) (hd : (match d with | .struct _ | .array _ _ => true | _ => false) = true) (hi : (P.info? ty).map (·.size) = some cs.size)
    (h : wpList P ops Q rest (a.put o.dst (.agg cs)) w) : wpList P ops Q (o :: rest) a w :=
  wpList_wanted hw fun _ hK => wp_load_row ty x ho g hx t cs fr d hg hu hd hi (hK _ _ h)
/-- an append of one literal element: the row's own block alone has turned, and the row stays, or is new -/
theorem wpList_pushF {w0 : World} {d : Option Tmp} {ty : TypeId} {pos : String} {after : Array Edge} {s x : Operand} {t e : TypeId} {size bytes : Nat} (T : SlT P t e size bytes)
    {base : Nat} {v : Value} {n : Nat} {xs : List Value} (hown : w0.ownsRow base e size v n xs) (cs : List Value) (hl : cs.length = size) (h1 : ∀ u ∈ cs, u.oneCell' = true) (hbase : base ≤ w0.heap.size)
    (hb : (n + 1) * bytes ≤ 140737488355328) (hm : n + 1 ≤ maxLen)
    (hs : a.eval s = v) (hx : a.eval x = .slice (some ⟨w0.heap.size, 0, none⟩) 1 1) (hw : w = w0.alloc (.cells cs.toArray e))
    (h : ∀ v' w', w'.ownsRow base e size v' (n + 1) (xs ++ cs) → Kept (fun k => v.ownBlock = some k) w0 w' → (∀ k, v'.ownBlock = some k → v.ownBlock = some k ∨ w0.heap.size ≤ k) → wpList P ops Q rest (a.put d v') w') :
    wpList P ops Q (⟨d, .call { callee := .builtin .append, args := #[s, x], argTypes := #[t, t] }, ty, pos, after, none⟩ :: rest) a w := by
  obtain ⟨i, z, hi, hz, hsz, hby, hzs⟩ := T.hi
  subst hw
  have hown' := hown.alloc (.cells cs.toArray e)
  obtain ⟨v', w', hr, h2, h3, h4⟩ := run_append_stays (P := P) (w := w0.alloc (.cells cs.toArray e)) base t ty e i z size bytes T.ht hi hz hsz hby hzs T.pos v n xs hown' ⟨w0.heap.size, 0, none⟩ 1 1 cs (by omega) (news_new w0 e cs) h1 hm hb (by simp; omega)
  refine wpList_plain rfl fun K hK => ?_
  unfold Oper.wp execOp
  simp only [resolve, invoke, builtin, Sem.run_bind, Sem.run_pure, Result.andThen_ok, List.map_toArray, List.map_cons, List.map_nil, hs, hx, hr]
  refine hK _ _ (h v' w' h2 ?_ fun k hk => (h4 k hk).elim .inl fun e => .inr (by simp at e; omega))
  exact ⟨h3.os, h3.tape, h3.output, Nat.le_trans (by simp) h3.size, fun k hk hn => (h3.block k (by simp; omega) fun e => hn e.symm).trans (Below.heap_alloc w0 _ k hk)⟩
end
/-- a lookup in a region that draws its order -/
theorem wpQuiet_look {P : Program} {ops : Array Oper} {S : World → Prop} {Q : Act → Prop} {rest : List Oper} {tmps : List Value} {ds : List Deferred} {d : Nat} {ty t : TypeId} {m x : Operand} {ok : Bool} {mv kv v : Value} {pos : String} {after : Array Edge} {gd : Option (Nat × Bool)}
    (hr : ∀ w', S w' → (Instr.lookup t mv kv ok).run P w' = .ok v w') (hm : Act.eval ⟨tmps.toArray, ds⟩ m = mv) (hx : Act.eval ⟨tmps.toArray, ds⟩ x = kv)
    (hw : Region.wanted ⟨some d, .lookup t m x ok, ty, pos, after, gd⟩ (yielded ops tmps.toArray) = true)
    (h : wpQuiet P ops S Q rest ⟨(tmps.set d v).toArray, ds⟩) :
    wpQuiet P ops S Q (⟨some d, .lookup t m x ok, ty, pos, after, gd⟩ :: rest) ⟨tmps.toArray, ds⟩ := by
  refine wpQuiet_step fun K hK => ?_
  rw [if_pos hw]
  refine ⟨v, ?_, hK _ ?_⟩
  · intro w hw'
    unfold Oper.quietAt execOp
    simp only [hm, hx, Sem.run_bind, hr w hw', Result.andThen_ok, Sem.run_pure]
    exact ⟨rfl, rfl⟩
  · have e : (Act.put ⟨tmps.toArray, ds⟩ (some d) v) = ⟨(tmps.set d v).toArray, ds⟩ := by simp [Act.put]
    rw [e]; exact h
end Go.Proofs.YtihggkmjalofiaaGreatDoor

/- Patches that lie in known blocks; an index as it lies. -/
namespace Go.Proofs.YtihggkmjalofiaaGreatDoor
open Go.RowKit

/-- whatever a slice holds lies in a block of G -/
def InB (G : Nat → Prop) (A : Option Addr) (n : Nat) : Prop := 0 < n → ∀ b o, A = some ⟨b, o, none⟩ → G b
/-- of the blocks of G nothing has turned -/
def Stay (G : Nat → Prop) (w w' : World) : Prop := w.heap.size ≤ w'.heap.size ∧ ∀ k, k < w.heap.size → G k → w'.heap[k]? = w.heap[k]?
section
variable {w w' : World} {F G : Nat → Prop}
theorem Kept.stay (h : Kept F w w') (hd : ∀ k, k < w.heap.size → G k → ¬ F k) : Stay G w w' := ⟨h.size, fun k hk hg => h.block k hk (hd k hk hg)⟩
theorem Stay.of_below (h : Below w.heap.size w w') : Stay G w w' := ⟨h.size, fun k hk _ => h.block k hk⟩
theorem Stay.mono (h : Stay F w w') (hg : ∀ k, G k → F k) : Stay G w w' := ⟨h.1, fun k hk e => h.2 k hk (hg k e)⟩
theorem InB.mono {A : Option Addr} {n : Nat} (h : InB F A n) (hg : ∀ k, F k → G k) : InB G A n := fun hn b o e => hg b (h hn b o e)
theorem Sl.stay {B size n : Nat} {A : Option Addr} {xs : List Value} (h : Sl w B size A n xs) (hG : InB G A n) (hB : B ≤ w.heap.size) (hk : Stay G w w') : Sl w' B size A n xs :=
  ⟨h.1, fun hn => by
    obtain ⟨b, o, e, hb, hc⟩ := h.2 hn
    exact ⟨b, o, e, hb, fun j hj => (World.cell?_of_block (a := ⟨b, o + j, none⟩) (hk.2 b (by omega) (hG hn b o e))).trans (hc j hj)⟩⟩
theorem PidsAt.stay {A : Option Addr} {n : Nat} {l : List PidV} (h : PidsAt w A n l) (hG : InB G A n) (hk : Stay G w w') : PidsAt w' A n l := ⟨h.len, (h.sl.stay hG (Nat.le_refl _) hk).more hk.1⟩
theorem OpsAt.stay {A : Option Addr} {n : Nat} {l : List OpV} (h : OpsAt w A n l) (hG : InB G A n) (hk : Stay G w w') : OpsAt w' A n l := ⟨h.len, (h.sl.stay hG (Nat.le_refl _) hk).more hk.1, h.ok⟩
theorem own_inB {base size n : Nat} {e : TypeId} {A : Option Addr} {c : Nat} {xs : List Value} (h : w.ownsRow base e size (.slice A n c) n xs) : InB (fun k => base ≤ k ∧ k < w.heap.size) A n := by
  intro hn b o e
  subst e
  exact h.lt b rfl
end
/-- a patch whose lists lie in G -/
structure PatIn (w : World) (G : Nat → Prop) (r : List Value) (p : PatV) : Prop where
  ex : ∃ A c A' c', r = patC p.1 A p.2.1.length c A' p.2.2.length c' ∧ PidsAt w A p.2.1.length p.2.1 ∧ OpsAt w A' p.2.2.length p.2.2 ∧ InB G A p.2.1.length ∧ InB G A' p.2.2.length
  len1 : p.2.1.length ≤ maxLen
  len2 : p.2.2.length ≤ maxLen
section
variable {w w' : World} {F G : Nat → Prop} {r : List Value} {p : PatV}
theorem PatIn.at_ (h : PatIn w G r p) : PatAt w r p := by
  obtain ⟨⟨A, c, A', c', e, h1, h2, _⟩, h3, h4⟩ := h
  exact ⟨⟨A, c, A', c', e, h1, h2⟩, h3, h4⟩
theorem PatIn.stay (h : PatIn w G r p) (hk : Stay G w w') : PatIn w' G r p := by
  obtain ⟨⟨A, c, A', c', e, h1, h2, i1, i2⟩, h3, h4⟩ := h
  exact ⟨⟨A, c, A', c', e, h1.stay i1 hk, h2.stay i2 hk, i1, i2⟩, h3, h4⟩
theorem PatIn.mono (h : PatIn w F r p) (hg : ∀ k, F k → G k) : PatIn w G r p := by
  obtain ⟨⟨A, c, A', c', e, h1, h2, i1, i2⟩, h3, h4⟩ := h
  exact ⟨⟨A, c, A', c', e, h1, h2, i1.mono hg, i2.mono hg⟩, h3, h4⟩
theorem PatIn.ext (h : PatIn w G r p) (hb : Below w.heap.size w w') : PatIn w' G r p := h.stay (Stay.of_below hb)
theorem PatIn.len4 (h : PatIn w G r p) : r.length = 4 := h.at_.len4
theorem PatIn.one (h : PatIn w G r p) : ∀ u ∈ r, u.oneCell' = true := h.at_.one
/-- what came in lies in old blocks -/
theorem PatAt.in_ (h : PatAt w r p) : PatIn w (fun k => k < w.heap.size) r p := by
  obtain ⟨⟨A, c, A', c', e, h1, h2⟩, h3, h4⟩ := h
  refine ⟨⟨A, c, A', c', e, h1, h2, ?_, ?_⟩, h3, h4⟩
  · intro hn b o ea
    obtain ⟨b', o', e', hb, _⟩ := h1.sl.2 hn
    rw [ea] at e'; injection e' with e'; injection e' with e1 _; show b < _; rw [e1]; exact hb
  · intro hn b o ea
    obtain ⟨b', o', e', hb, _⟩ := h2.sl.2 hn
    rw [ea] at e'; injection e' with e'; injection e' with e1 _; show b < _; rw [e1]; exact hb
theorem PatIn.of_copy {B : Nat} {A1 A2 : Option Addr} {c1 c2 : Nat} (h1 : w.ownsRow B 27 2 (.slice A1 p.2.1.length c1) p.2.1.length (p.2.1.flatMap encP)) (h2 : w.ownsRow B 122 8 (.slice A2 p.2.2.length c2) p.2.2.length (p.2.2.flatMap encO))
    (ho : ∀ o ∈ p.2.2, OpV.ok o) (l1 : p.2.1.length ≤ maxLen) (l2 : p.2.2.length ≤ maxLen) : PatIn w (fun k => B ≤ k ∧ k < w.heap.size) (patC p.1 A1 p.2.1.length c1 A2 p.2.2.length c2) p := by
  obtain ⟨A, c, e, _, s1⟩ := Sl.of_own h1
  obtain ⟨A', c', e', _, s2⟩ := Sl.of_own h2
  injection e with ea _ _
  injection e' with ea' _ _
  subst ea ea'
  exact ⟨⟨A1, c1, A2, c2, rfl, ⟨rfl, s1⟩, ⟨rfl, s2, ho⟩, own_inB h1, own_inB h2⟩, l1, l2⟩
theorem PatAt.oks (h : PatAt w r p) : ∀ o ∈ p.2.2, OpV.ok o := by
  obtain ⟨⟨A, c, A', c', e, h1, h2⟩, h3, h4⟩ := h
  exact h2.ok
end
def RowsIn (w : World) (G : Nat → Prop) (rows : List (List Value)) (l : List PatV) : Prop := rows.length = l.length ∧ ∀ (k : Nat) (r : List Value) (p : PatV), rows[k]? = some r → l[k]? = some p → PatIn w G r p
section
variable {w w' : World} {F G : Nat → Prop} {rows : List (List Value)} {l : List PatV}
theorem RowsIn.rowsP (h : RowsIn w G rows l) : RowsP w rows l := ⟨h.1, fun k r p h1 h2 => (h.2 k r p h1 h2).at_⟩
theorem RowsIn.stay (h : RowsIn w G rows l) (hk : Stay G w w') : RowsIn w' G rows l := ⟨h.1, fun k r p h1 h2 => (h.2 k r p h1 h2).stay hk⟩
theorem RowsIn.mono (h : RowsIn w F rows l) (hg : ∀ k, F k → G k) : RowsIn w G rows l := ⟨h.1, fun k r p h1 h2 => (h.2 k r p h1 h2).mono hg⟩
theorem RowsIn.nil (w : World) (G : Nat → Prop) : RowsIn w G [] [] := ⟨rfl, fun _ _ _ h => by simp at h⟩
theorem RowsIn.snoc {r : List Value} {p : PatV} (h : RowsIn w G rows l) (hp : PatIn w G r p) : RowsIn w G (rows ++ [r]) (l ++ [p]) := by
  refine ⟨by simp [h.1], fun k r' p' h1 h2 => ?_⟩
  rcases Nat.lt_or_ge k rows.length with hk | hk
  · rw [List.getElem?_append_left hk] at h1
    rw [List.getElem?_append_left (by rw [← h.1]; exact hk)] at h2
    exact h.2 k r' p' h1 h2
  · rw [List.getElem?_append_right hk] at h1
    rw [List.getElem?_append_right (by rw [← h.1]; exact hk), ← h.1] at h2
    match k - rows.length, h1, h2 with
    | 0, h1, h2 =>
      obtain rfl : r = r' := by simpa using h1
      obtain rfl : p = p' := by simpa using h2
      exact hp
    | j + 1, h1, _ => simp at h1
theorem RowsP.in_ (h : RowsP w rows l) : RowsIn w (fun k => k < w.heap.size) rows l := ⟨h.1, fun k r p h1 h2 => (h.2 k r p h1 h2).in_⟩
end
/-- a slice of patches that lies in G, with all that it leads to -/
structure PatsIn (w : World) (G : Nat → Prop) (A : Option Addr) (n : Nat) (l : List PatV) : Prop where
  len : l.length = n
  inb : InB G A n
  ex : ∃ rows, RowsIn w G rows l ∧ Sl w w.heap.size 4 A n rows.flatten
section
variable {w w' : World} {F G : Nat → Prop} {A : Option Addr} {n : Nat} {l : List PatV}
theorem PatsIn.at_ (h : PatsIn w G A n l) : PatsAt w A n l := by
  obtain ⟨rows, h1, h2⟩ := h.ex
  exact ⟨h.len, rows, h1.rowsP, h2⟩
theorem PatsIn.stay (h : PatsIn w G A n l) (hk : Stay G w w') : PatsIn w' G A n l := by
  obtain ⟨rows, h1, h2⟩ := h.ex
  exact ⟨h.len, h.inb, rows, h1.stay hk, (h2.stay h.inb (Nat.le_refl _) hk).more hk.1⟩
theorem PatsIn.mono (h : PatsIn w F A n l) (hg : ∀ k, F k → G k) : PatsIn w G A n l := by
  obtain ⟨rows, h1, h2⟩ := h.ex
  exact ⟨h.len, h.inb.mono hg, rows, h1.mono hg, h2⟩
theorem PatsIn.ext (h : PatsIn w G A n l) (hb : Below w.heap.size w w') : PatsIn w' G A n l := h.stay (Stay.of_below hb)
theorem PatsAt.in_ (h : PatsAt w A n l) : PatsIn w (fun k => k < w.heap.size) A n l := by
  obtain ⟨rows, h1, h2⟩ := h.ex
  refine ⟨h.len, fun hn b o ea => ?_, rows, h1.in_, h2⟩
  obtain ⟨b', o', e', hb, _⟩ := h2.2 hn
  rw [ea] at e'; injection e' with e'; injection e' with e1 _; show b < _; rw [e1]; exact hb
end

/-- a row of patches of one's own, each with lists of its own: all made from block B on -/
def OwnC (B : Nat) (w : World) (s : Value) (l : List PatV) : Prop := ∃ rows D, w.ownsRow B 31 4 s l.length rows.flatten ∧ RowsIn w D rows l ∧ ∀ k, D k → B ≤ k ∧ k < w.heap.size ∧ s.ownBlock ≠ some k
section
variable {w w' : World} {B : Nat} {s : Value} {l : List PatV}
theorem OwnC.nil (B : Nat) (w : World) : OwnC B w (.slice none 0 0) [] := ⟨[], fun _ => False, World.ownsRow_nil _ _ _ _, RowsIn.nil w _, fun _ h => h.elim⟩
theorem OwnC.stay (h : OwnC B w s l) (hk : Stay (fun k => B ≤ k) w w') : OwnC B w' s l := by
  obtain ⟨rows, D, h1, h2, h3⟩ := h
  exact ⟨rows, D, own_keepF h1 (fun g e => hk.2 g (h1.lt g e).2 (h1.lt g e).1), h2.stay (hk.mono fun k e => (h3 k e).1), fun k e => ⟨(h3 k e).1, Nat.lt_of_lt_of_le (h3 k e).2.1 hk.1, (h3 k e).2.2⟩⟩
theorem OwnC.ext (h : OwnC B w s l) (hb : Below w.heap.size w w') : OwnC B w' s l := h.stay (Stay.of_below hb)
theorem OwnC.mono {B' : Nat} (h : OwnC B w s l) (hB : B' ≤ B) : OwnC B' w s l := by
  obtain ⟨rows, D, h1, h2, h3⟩ := h
  exact ⟨rows, D, own_rebase h1 (fun k e => Nat.le_trans hB (h1.lt k e).1), h2, fun k e => ⟨Nat.le_trans hB (h3 k e).1, (h3 k e).2⟩⟩
theorem OwnC.slice (h : OwnC B w s l) : ∃ A c, s = .slice A l.length c ∧ l.length ≤ c := by
  obtain ⟨rows, D, h1, _⟩ := h
  obtain ⟨A, c, rfl, hc, _⟩ := Sl.of_own h1
  exact ⟨A, c, rfl, hc⟩
theorem OwnC.pats {A : Option Addr} {c : Nat} (h : OwnC B w (.slice A l.length c) l) : PatsIn w (fun k => B ≤ k ∧ k < w.heap.size) A l.length l := by
  obtain ⟨rows, D, h1, h2, h3⟩ := h
  obtain ⟨A', c', e, _, hs⟩ := Sl.of_own h1
  injection e with e1 _ _
  subst e1
  exact ⟨rfl, own_inB h1, rows, h2.mono fun k e => ⟨(h3 k e).1, (h3 k e).2.1⟩, hs⟩
/-- one more that was copied between w and w0, and pushed -/
theorem OwnC.push {w0 : World} {v : Value} {r : List Value} {p : PatV} {C : Nat} {rows : List (List Value)} {D : Nat → Prop} (ho : w'.ownsRow B 31 4 v (l.length + 1) (rows.flatten ++ r)) (hk : Kept (fun k => s.ownBlock = some k) w0 w')
    (hv : ∀ k, v.ownBlock = some k → s.ownBlock = some k ∨ w0.heap.size ≤ k) (hr : RowsIn w0 D rows l) (hD : ∀ k, D k → B ≤ k ∧ k < w0.heap.size ∧ s.ownBlock ≠ some k) (hp : PatIn w0 (fun k => C ≤ k ∧ k < w0.heap.size) r p) (hC : B ≤ C) (hs : ∀ k, s.ownBlock = some k → k < C) : OwnC B w' v (l ++ [p]) := by
  have st : Stay (fun k => D k ∨ C ≤ k ∧ k < w0.heap.size) w0 w' := hk.stay fun k _ hd e => hd.elim (fun hd => (hD k hd).2.2 e) (fun hd => by have := hs k e; omega)
  refine ⟨rows ++ [r], fun k => D k ∨ C ≤ k ∧ k < w0.heap.size, ?_, ((hr.mono fun k hd => .inl hd).snoc (hp.mono fun k hd => .inr hd)).stay st, fun k hd => ?_⟩
  · rw [List.length_append, List.flatten_append]
    simpa using ho
  · have hlt : B ≤ k ∧ k < w0.heap.size := hd.elim (fun hd => ⟨(hD k hd).1, (hD k hd).2.1⟩) (fun hd => ⟨by omega, hd.2⟩)
    refine ⟨hlt.1, Nat.lt_of_lt_of_le hlt.2 hk.size, fun e => ?_⟩
    rcases hv k e with e | e
    · exact hd.elim (fun hd => (hD k hd).2.2 e) (fun hd => by have := hs k e; omega)
    · omega
end
/-- an index's cells -/
def idxC (v : List Int) (s : Value) (gm : Nat) : Array Value := vecA v ++ #[s, .map (some gm)]
def idxM (L : List PatV) : List (Value × Value) := L.mapIdx fun i p => (.agg (encP p.1).toArray, .int .i64 ((i : Nat) : Int))
/-- an index as it lies: its own blocks are those of F -/
structure IdxAt (w : World) (F : Nat → Prop) (g : Nat) (L : List PatV) : Prop where
  ok : IdxOk L
  lt : ∀ k, F k → k < w.heap.size
  self : F g
  ex : ∃ s gm rows D, Blk w g 169 (idxC (vecL L) s gm) ∧ F gm ∧ MapIs Tryz.prog 27 w gm (idxM L) ∧ w.ownsRow 0 31 4 s L.length rows.flatten ∧ (∀ k, s.ownBlock = some k → F k) ∧ RowsIn w D rows L ∧ ∀ k, D k → F k ∧ k ≠ g ∧ k ≠ gm ∧ s.ownBlock ≠ some k
theorem IdxAt.stay {w w' : World} {F : Nat → Prop} {g : Nat} {L : List PatV} (h : IdxAt w F g L) (hk : Stay F w w') : IdxAt w' F g L := by
  obtain ⟨h1, h2, h3, s, gm, rows, D, k1, k2, k3, k4, k5, k6, k7⟩ := h
  exact ⟨h1, fun k hF => Nat.lt_of_lt_of_le (h2 k hF) hk.1, h3, s, gm, rows, D, k1.keep (hk.2 g (h2 g h3) h3), k2, k3.keep (hk.2 gm (h2 gm k2) k2), own_keepF k4 (fun k e => hk.2 k (h2 k (k5 k e)) (k5 k e)), k5, k6.stay (hk.mono fun k e => (k7 k e).1), k7⟩
theorem IdxAt.ext {w w' : World} {F : Nat → Prop} {g : Nat} {L : List PatV} (h : IdxAt w F g L) (hb : Below w.heap.size w w') : IdxAt w' F g L := h.stay (Stay.of_below hb)
theorem idxM_snoc (L : List PatV) (p : PatV) : idxM (L ++ [p]) = idxM L ++ [(.agg (encP p.1).toArray, .int .i64 ((L.length : Nat) : Int))] := by
  unfold idxM; rw [List.mapIdx_append]; simp
theorem encP_inj {x y : PidV} (h : (Value.agg (encP x).toArray) = .agg (encP y).toArray) : x = y := by
  unfold encP at h
  simp only [Value.agg.injEq, Array.mk.injEq, List.cons.injEq, Value.int.injEq, true_and, and_true] at h
  exact Prod.ext (Fin.ext (by omega)) (Fin.ext (by omega))
theorem idxM_key {L : List PatV} {d : PidV} {v : Value} (h : ((Value.agg (encP d).toArray), v) ∈ idxM L) : ∃ (i : Nat) (p : PatV), L[i]? = some p ∧ p.1 = d ∧ v = .int .i64 (i : Int) := by
  obtain ⟨i, hi, e⟩ := List.getElem_of_mem h
  unfold idxM at hi e
  rw [List.getElem_mapIdx] at e
  rw [List.length_mapIdx] at hi
  injection e with e1 e2
  exact ⟨i, L[i], List.getElem?_eq_getElem hi, encP_inj e1, e2.symm⟩
theorem idxM_none {L : List PatV} {d : PidV} (h : ∀ q ∈ idxM L, q.1 ≠ .agg (encP d).toArray) : ∀ p ∈ L, p.1 ≠ d := by
  intro p hp e
  obtain ⟨i, hi, rfl⟩ := List.getElem_of_mem hp
  refine h (.agg (encP L[i].1).toArray, .int .i64 ((i : Nat) : Int)) ?_ (by rw [e])
  unfold idxM
  rw [List.mem_iff_getElem]
  exact ⟨i, by simpa using hi, by simp⟩
end Go.Proofs.YtihggkmjalofiaaGreatDoor

/- An index: what it holds is told: walked. -/
namespace Go.Proofs.YtihggkmjalofiaaGreatDoor
open Go.RowKit

theorem patB_len {p : PatV} (h : patB p = true) : p.2.1.length ≤ 1000 ∧ p.2.2.length ≤ 200 := by
  unfold patB at h
  simp only [Bool.and_eq_true, decide_eq_true_eq] at h
  obtain ⟨_, _, h2, h3, _⟩ := h
  have := depsV_le p.1 p.2.2
  rw [← h3] at this
  omega
theorem kLawI : Go.WideMaps.KeyLaw Tryz.prog 27 := deep_law_laid (by kernel_rfl) (m := 4) (by omega) (of_decide_eq_true (by kernel_rfl)) (by kernel_rfl) (by kernel_rfl)
theorem kMapI : Tryz.prog.underlying 167 = some (.map 27 3) := by kernel_rfl
theorem kKeyP (d : PidV) : ∃ kl, keyOf Tryz.prog 27 (.agg (encP d).toArray) = some kl :=
  keyOf_flat (ks := [.int .u8, .int .u16]) (by kernel_rfl) (by kernel_rfl) (by kernel_rfl) (by kernel_rfl) (of_decide_eq_true (by kernel_rfl)) ⟨⟨_, rfl, lit_u8 _⟩, ⟨_, rfl, lit_u16 _⟩, trivial⟩
theorem idxC_size {v : List Int} (hv : VecOk v) (s : Value) (gm : Nat) : (idxC v s gm).size = 66 := by
  unfold idxC
  rw [Array.size_append, vecA_size, hv.len]; rfl
section
variable {w : World} {g gm : Nat} {t : TypeId} {v : List Int} {s : Value}
theorem idx_s (hv : VecOk v) (h : Blk w g t (idxC v s gm)) : w.cell? ⟨g, 64, none⟩ = some s := by
  rw [h.cell 64]
  unfold idxC
  rw [Array.getElem?_append_right (by rw [vecA_size, hv.len]; exact Nat.le_refl _), vecA_size, hv.len]; rfl
theorem idx_m (hv : VecOk v) (h : Blk w g t (idxC v s gm)) : w.cell? ⟨g, 65, none⟩ = some (.map (some gm)) := by
  rw [h.cell 65]
  unfold idxC
  rw [Array.getElem?_append_right (by rw [vecA_size, hv.len]; omega), vecA_size, hv.len]; rfl
theorem idx_v (h : Blk w g t (idxC v s gm)) : w.rangeAt g 0 (v.map (Value.int .u16)) := by
  intro j u hj
  rw [Nat.zero_add, h.cell j]
  unfold idxC
  have hl := (List.getElem?_eq_some_iff.1 hj).1
  rw [List.length_map] at hl
  rw [Array.getElem?_append_left (by rw [vecA_size]; exact hl)]
  unfold vecA
  simpa using hj
end
/-- what an index's cells are, in any world that has only more -/
structure IdxCells (w : World) (F : Nat → Prop) (g : Nat) (L : List PatV) (A : Option Addr) (c gm : Nat) : Prop where
  s : ∀ z : Ext w, z.w.cell? ⟨g, 64, none⟩ = some (.slice A L.length c)
  m : ∀ z : Ext w, z.w.cell? ⟨g, 65, none⟩ = some (.map (some gm))
  v : w.rangeAt g 0 ((vecL L).map (Value.int .u16))
  lt : g < w.heap.size
  map : MapIs Tryz.prog 27 w gm (idxM L)
  pats : PatsIn w F A L.length L
theorem IdxAt.cells {w : World} {F : Nat → Prop} {g : Nat} {L : List PatV} (h : IdxAt w F g L) : ∃ A c gm, IdxCells w F g L A c gm := by
  obtain ⟨h1, h2, h3, s, gm, rows, D, k1, k2, k3, k4, k5, k6, k7⟩ := h
  obtain ⟨A, c, rfl, _, hs⟩ := Sl.of_own k4
  have hv := vecL_ok L
  exact ⟨A, c, gm, fun z => idx_s hv (k1.ext z.h), fun z => idx_m hv (k1.ext z.h), idx_v k1, h2 g h3, k3, rfl, fun _ b o e => k5 b (by subst e; rfl), rows, k6.mono fun k e => (k7 k e).1, hs⟩
theorem PatsIn.pat_ {w : World} {G : Nat → Prop} {A : Option Addr} {n : Nat} {l : List PatV} (h : PatsIn w G A n l) {k : Nat} (hk : k < n) : ∃ b o x r, A = some ⟨b, o, none⟩ ∧ b < w.heap.size ∧ l[k]? = some x ∧ PatIn w G r x ∧ w.rangeAt b (o + k * 4) r := by
  obtain ⟨rows, h1, h2⟩ := h.ex
  have hk1 : k < l.length := by rw [h.len]; exact hk
  have hk2 : k < rows.length := by rw [h1.1]; exact hk1
  have e : rows.flatten = rows.flatMap id := by simp [List.flatMap_def]
  rw [e] at h2
  obtain ⟨b, o, rfl, hb, hr⟩ := h2.rowAt (by rw [h1.1, h.len]) (fun x hx => h1.rowsP.len4 x hx) hk2
  exact ⟨b, o, l[k], rows[k], rfl, hb, List.getElem?_eq_getElem hk1, h1.2 k _ _ (List.getElem?_eq_getElem hk2) (List.getElem?_eq_getElem hk1), hr⟩
set_option maxRecDepth 100000 in
set_option maxHeartbeats 1000000 in
theorem len31_any {w : World} {F : Nat → Prop} {g : Nat} {L : List PatV} (hI : IdxAt w F g L) :
    Calls Tryz.prog 34 #[.pointer (some ⟨g, 0, none⟩)] w (Ret w (.int .i64 L.length)) := by
  obtain ⟨A, c, gm, h⟩ := hI.cells
  have c64 : w.cell? ⟨g, 64, none⟩ = some (.slice A L.length c) := h.s ⟨w, Below.refl _ _⟩
  clear h hI
  go_enter Tryz.func34, Tryz.ntmps34
  go_wp2
  go_ret
  exact ⟨rfl, rfl⟩

end Go.Proofs.YtihggkmjalofiaaGreatDoor

/- An index: a patch by its name, those that a vector has not, all: walked. -/
namespace Go.Proofs.YtihggkmjalofiaaGreatDoor
open Go.RowKit

theorem zeroCells_in (w : World) (G : Nat → Prop) : PatIn w G [.int .u8 0, .int .u16 0, .slice none 0 0, .slice none 0 0] zeroPat :=
  ⟨⟨none, 0, none, 0, rfl, ⟨rfl, rfl, fun h => absurd h (by simp [zeroPat])⟩, ⟨rfl, ⟨rfl, fun h => absurd h (by simp [zeroPat])⟩, by simp [zeroPat]⟩, fun h => absurd h (by simp [zeroPat]), fun h => absurd h (by simp [zeroPat])⟩, by simp [zeroPat], by simp [zeroPat]⟩
def getV (L : List PatV) (d : PidV) : PatV := (findP L d).getD zeroPat
/-- a patch is handed back, and whether it is there: its lists are new -/
def RetGet (w : World) (q : PatV) (b : Bool) (e : Ending) (w' : World) : Prop := ∃ cs : List Value, e = .returned (.tuple #[.agg cs.toArray, .bool b]) ∧ PatIn w' (fun k => w.heap.size ≤ k ∧ k < w'.heap.size) cs q ∧ Below w.heap.size w w'
theorem makeI (w : World) : (Instr.makeMap 167 none).run Tryz.prog w = .ok (.map (some w.heap.size)) (w.alloc (.map #[] 0)) := by kernel_rfl
theorem buildI (gm : Nat) (w : World) : (Instr.build 169 #[(2, .map (some gm))]).run Tryz.prog w = .ok (.agg (idxC vec0 (.slice none 0 0) gm)) w := by kernel_rfl
/-- a new index is handed back -/
def RetNew (w : World) (e : Ending) (w' : World) : Prop := ∃ g, e = .returned (.pointer (some ⟨g, 0, none⟩)) ∧ IdxAt w' (fun k => w.heap.size ≤ k ∧ k < w'.heap.size) g [] ∧ Below w.heap.size w w'
set_option maxRecDepth 100000 in
set_option maxHeartbeats 2000000 in
theorem new31_any (w : World) : Calls Tryz.prog 31 #[] w (RetNew w) := by
  have M0 : Hid (MapIs Tryz.prog 27 (w.alloc (.map #[] 0)) w.heap.size []) := MapIs.made _ _ _
  have E : Hid (IdxAt ((w.alloc (.map #[] 0)).alloc (.cells (idxC vec0 (.slice none 0 0) w.heap.size) 169)) (fun k => w.heap.size ≤ k ∧ k < ((w.alloc (.map #[] 0)).alloc (.cells (idxC vec0 (.slice none 0 0) w.heap.size) 169)).heap.size) (w.heap.size + 1) []) :=
    ⟨.nil, fun k h => h.2, by simp, .slice none 0 0, w.heap.size, [], fun _ => False, Blk.newAt (by simp) _ _, (by simp; omega), M0.out.alloc _, World.ownsRow_nil _ _ _ _, (fun k e => by cases e), RowsIn.nil _ _, fun _ h => False.elim h⟩
  have B : Hid (Below w.heap.size w ((w.alloc (.map #[] 0)).alloc (.cells (idxC vec0 (.slice none 0 0) w.heap.size) 169))) := ((Below.refl _ _).alloc (Nat.le_refl _) _).alloc (by simp) _
  have hmk := makeI
  go_enter Tryz.func31, Tryz.ntmps31
  go_wp2_with (refine wpList_built (buildI _ _) (by rfl) ?_)
  go_ret
  exact ⟨_, rfl, E.out, B.out⟩

theorem getV_none {L : List PatV} {d : PidV} (h : findP L d = none) : getV L d = zeroPat := by unfold getV; rw [h]; rfl
theorem getV_some {L : List PatV} {d : PidV} {p : PatV} (h : findP L d = some p) : getV L d = p := by unfold getV; rw [h]; rfl
theorem buildPatZ (w : World) : (Instr.build 31 #[]).run Tryz.prog w = .ok (.agg #[.int .u8 0, .int .u16 0, .slice none 0 0, .slice none 0 0]) w := by kernel_rfl
theorem kZeroInt (u : World) : (zeroValue 3).run Tryz.prog u = .ok (.int .i64 0) u := by kernel_rfl
set_option maxRecDepth 100000 in
set_option maxHeartbeats 2000000 in
theorem get31_any {w : World} {F : Nat → Prop} {g : Nat} {L : List PatV} (hI : IdxAt w F g L) (d : PidV) :
    Calls Tryz.prog 124 #[.pointer (some ⟨g, 0, none⟩), .agg (encP d).toArray] w (RetGet w (getV L d) (findP L d).isSome) := by
  have HI := Lib.hid hI
  have K1 : Hid (Blk ((w.alloc (.cells (encP d).toArray 27)).alloc (.cells #[.int .u8 0, .int .u16 0, .slice none 0 0, .slice none 0 0] 31)) w.heap.size 27 (encP d).toArray) := (Blk.new _ _ _).alloc _
  have K2 : Hid (Blk ((w.alloc (.cells (encP d).toArray 27)).alloc (.cells #[.int .u8 0, .int .u16 0, .slice none 0 0, .slice none 0 0] 31)) (w.heap.size + 1) 31 #[.int .u8 0, .int .u16 0, .slice none 0 0, .slice none 0 0]) := Blk.newAt (by simp) _ _
  have B0 : Hid (Below w.heap.size w ((w.alloc (.cells (encP d).toArray 27)).alloc (.cells #[.int .u8 0, .int .u16 0, .slice none 0 0, .slice none 0 0] 31))) := ((Below.refl _ _).alloc (Nat.le_refl _) _).alloc (by simp) _
  have hgr : Hid (w.heap.size ≤ w.heap.size + 1) := Nat.le_succ _
  clear hI
  go_enter Tryz.func124, Tryz.ntmps124
  go_upto_region 3 with fail
  generalize ((w.alloc (.cells (encP d).toArray 27)).alloc (.cells #[.int .u8 0, .int .u16 0, .slice none 0 0, .slice none 0 0] 31)) = w2 at *
  generalize w.heap.size + 1 = gr at *
  have HI := Lib.hid (HI.out.ext B0.out)
  obtain ⟨A, c, gm, IC⟩ := HI.out.cells
  have c65 := IC.m
  obtain ⟨kl, hkl⟩ := kKeyP d
  obtain ⟨v, ok, hv, hrun⟩ := IC.map.look_ok kLawI kMapI kZeroInt hkl
  have hrun := Lib.hid hrun
  have gml := Lib.hid IC.map.lt
  clear hkl
  have HR : Hid (∀ w', (∃ z : Ext w2, w' = z.w) → (Instr.lookup 167 (.map (some gm)) (.agg (encP d).toArray) true).run Tryz.prog w' = .ok (.tuple #[v, .bool ok]) w') := by
    rintro _ ⟨z, rfl⟩
    exact hrun.out _ (z.h.block gm gml.out)
  clear hrun
  rcases hv with ⟨rfl, hno, rfl⟩ | ⟨rfl, hyes⟩
  · have FN : Hid (findP L d = none) := findP_none.2 (idxM_none hno)
    clear hno IC
    refine wp_region_ext mixedS (by kernel_rfl) ?_
    repeat (first
      | (refine wpQuiet_load_row K1.out underPid rfl infoPid rfl rfl ?_; simp only [List.set_cons_succ, List.set_cons_zero])
      | (refine wpQuiet_look HR.out rfl rfl rfl ?_; simp only [List.set_cons_succ, List.set_cons_zero])
      | go_big_quiet_step (fail))
    refine wpQuiet_nil ?_
    rintro _ ⟨z, rfl⟩
    have B3 := Lib.hid (B0.out.trans (z.h.mono B0.out.size))
    have K3 := Lib.hid (K2.out.ext z.h)
    generalize z.w = w3 at *
    clear c65 K1 K2 HR HI B0 gml
    go_wp2_with (first
      | (refine wpList_built (buildPatZ _) (by rfl) ?_)
      | (refine wpList_store_row rfl 31 _ _ (by rfl) gr #[.int .u8 0, .int .u16 0, .slice none 0 0, .slice none 0 0] (by rfl) (by rfl) _ _ K3.out infoPat rfl zeroC_one ?_))
    refine bodyPost_ret (results_row_tmp rfl _ _ gr _ #[.int .u8 0, .int .u16 0, .slice none 0 0, .slice none 0 0] _ rfl (K3.out.row _) underPat rfl infoPat) rfl ?_
    refine ⟨[.int .u8 0, .int .u16 0, .slice none 0 0, .slice none 0 0], ?_, ?_, below_setRow B3.out hgr.out _⟩
    · rw [FN.out]; rfl
    · rw [getV_none FN.out]; exact zeroCells_in _ _
  · obtain ⟨i, p, hi, rfl, rfl⟩ := idxM_key hyes
    have FS : Hid (findP L p.1 = some p) := HI.out.ok.find hi
    have hil : i < L.length := (List.getElem?_eq_some_iff.1 hi).1
    have hil' : (i : Int) < (L.length : Int) := by omega
    have hi0 : (0 : Int) ≤ (i : Int) := by omega
    obtain ⟨b, o, q, r, rfl, hb, hq, pa, R⟩ := IC.pats.pat_ hil
    obtain rfl : p = q := by rw [hi] at hq; exact Option.some.inj hq
    have GL := Lib.hid (patB_len (HI.out.ok.good p (List.mem_of_getElem? hi)))
    have PA := Lib.hid pa
    have R := Lib.hid R
    have hb := Lib.hid hb
    have c64 := IC.s
    obtain ⟨⟨A1, c1, A2, c2, rfl, _, _, _, _⟩, _, _⟩ := PA.out
    clear pa hyes hq hi IC
    refine wp_region_ext mixedS (by kernel_rfl) ?_
    repeat (first
      | (refine wpQuiet_load_row K1.out underPid rfl infoPid rfl rfl ?_; simp only [List.set_cons_succ, List.set_cons_zero])
      | (refine wpQuiet_look HR.out rfl rfl rfl ?_; simp only [List.set_cons_succ, List.set_cons_zero])
      | go_big_quiet_step (fail))
    refine wpQuiet_nil ?_
    rintro _ ⟨z, rfl⟩
    have z64 := c64 z
    have B3 := Lib.hid (B0.out.trans (z.h.mono B0.out.size))
    have K3 := Lib.hid (K2.out.ext z.h)
    have PA3 := Lib.hid (PA.out.ext z.h)
    have R3 := Lib.hid (rangeAt_ext R.out hb.out z.w ⟨z, rfl⟩)
    generalize z.w = w3 at *
    clear c65 c64 K1 K2 HR HI B0 gml PA R
    have HC := Lib.hid (copy18_any p w3 _ PA3.out.at_ (by have := GL.out.1; omega) (by have := GL.out.2; omega))
    go_wp2_with (refine wpList_load_mid rfl 31 _ (by rfl) b (o + i * 4) (by rfl) _ _ R3.out underPat rfl infoPat ?_)
    refine HC.out.mono ?_
    rintro e w4 ⟨A3, c3, A4, c4, rfl, o1, o2, b4⟩
    have PN := Lib.hid (PatIn.of_copy o1 o2 PA3.out.at_.oks PA3.out.len1 PA3.out.len2)
    have B4 := Lib.hid (B3.out.trans (b4.mono B3.out.size))
    have K4 := Lib.hid (K3.out.ext b4)
    have hgl : Hid (gr < w3.heap.size) := K3.out.lt
    have h34 := Lib.hid b4.size
    have hw3 := Lib.hid B3.out.size
    clear o1 o2 b4 HC B3 R3 K3
    go_wp2_with (refine wpList_store_row rfl 31 _ _ (by rfl) gr (patC p.1 A3 p.2.1.length c3 A4 p.2.2.length c4).toArray (by rfl) (by rfl) _ _ K4.out infoPat rfl patC_one ?_)
    refine bodyPost_ret (results_row_tmp rfl _ _ gr _ (patC p.1 A3 p.2.1.length c3 A4 p.2.2.length c4).toArray _ rfl (K4.out.row _) underPat rfl infoPat) rfl ?_
    refine ⟨patC p.1 A3 p.2.1.length c3 A4 p.2.2.length c4, ?_, ?_, below_setRow B4.out hgr.out _⟩
    · rw [FS.out]; rfl
    · rw [getV_some FS.out]
      refine (PN.out.stay (w' := w4.setRow gr (patC p.1 A3 p.2.1.length c3 A4 p.2.2.length c4).toArray) ⟨by simp, fun k hk hg => setRow_other _ _ _ _ ?_⟩).mono fun k hk => ⟨?_, ?_⟩
      · have := hg.1; have := hgl.out; omega
      · have := hk.1; have := hw3.out; omega
      · have := hk.2; simpa using this
end Go.Proofs.YtihggkmjalofiaaGreatDoor

/- An index: a patch that is put: walked. -/
namespace Go.Proofs.YtihggkmjalofiaaGreatDoor
open Go.RowKit
open Go.ChangeMaps (setBlock)

theorem Blk.setCells {g : Nat} {t : TypeId} : ∀ (vs : List Value) (o : Nat) (w : World) (cs : Array Value), Blk w g t cs → ∃ cs', Blk (w.setCells g o vs) g t cs' ∧ cs'.size = cs.size ∧ ∀ j, j < cs.size → cs'[j]? = if o ≤ j ∧ j < o + vs.length then vs[j - o]? else cs[j]?
  | [], o, w, cs, h => ⟨cs, h, rfl, fun j _ => by rw [if_neg (by simp only [List.length_nil]; omega)]⟩
  | v :: vs, o, w, cs, h => by
    obtain ⟨cs', h1, h2, h3⟩ := Blk.setCells vs (o + 1) (w.setCell ⟨g, o, none⟩ v) _ (h.set_ o v)
    refine ⟨cs', h1, by rw [h2]; simp, fun j hj => ?_⟩
    rw [h3 j (by simpa using hj)]
    by_cases hc : o + 1 ≤ j ∧ j < o + 1 + vs.length
    · rw [if_pos hc, if_pos (by simp only [List.length_cons]; omega)]
      obtain ⟨m, rfl⟩ : ∃ m, j = o + 1 + m := ⟨j - (o + 1), by omega⟩
      rw [show o + 1 + m - (o + 1) = m by omega, show o + 1 + m - o = m + 1 by omega]; rfl
    · rw [if_neg hc]
      by_cases ho : j = o
      · subst ho
        rw [if_pos (by simp only [List.length_cons]; omega), Array.getElem?_setIfInBounds_self_of_lt hj]; simp
      · rw [if_neg (by simp only [List.length_cons]; omega), Array.getElem?_setIfInBounds_ne (fun e => ho e.symm)]
theorem Kept.setCells {F : Nat → Prop} {a : World} {g : Nat} (hg : F g ∨ a.heap.size ≤ g) : ∀ (vs : List Value) (o : Nat) (w : World), Kept F a w → Kept F a (w.setCells g o vs)
  | [], _, _, h => h
  | _ :: vs, o, _, h => Kept.setCells hg vs (o + 1) _ (h.setCell (p := ⟨g, o, none⟩) hg _)
theorem setCells_idx {w : World} {g gm : Nat} {t : TypeId} {v v' : List Int} {s : Value} (hv : VecOk v) (hv' : VecOk v') (h : Blk w g t (idxC v s gm)) : Blk (w.setCells g 0 (vecA v').toList) g t (idxC v' s gm) := by
  obtain ⟨cs', h1, h2, h3⟩ := Blk.setCells (vecA v').toList 0 w _ h
  have e : cs' = idxC v' s gm := by
    apply Array.ext_getElem?
    intro j
    rw [idxC_size hv] at h2 h3
    have hl : (vecA v').toList.length = 64 := by rw [Array.length_toList, vecA_size, hv'.len]
    rcases Nat.lt_or_ge j 66 with hj | hj
    · rw [h3 j hj, hl]
      by_cases hc : j < 64
      · rw [if_pos (by omega)]
        unfold idxC
        rw [Array.getElem?_append_left (by rw [vecA_size, hv'.len]; exact hc)]
        simp
      · rw [if_neg (by omega)]
        unfold idxC
        rw [Array.getElem?_append_right (by rw [vecA_size, hv.len]; omega), Array.getElem?_append_right (by rw [vecA_size, hv'.len]; omega), vecA_size, vecA_size, hv.len, hv'.len]
    · rw [Array.getElem?_eq_none (by omega), Array.getElem?_eq_none (by rw [idxC_size hv']; omega)]
  rw [← e]; exact h1
theorem set_idx {w : World} {g gm : Nat} {t : TypeId} {v : List Int} {s s' : Value} (hv : VecOk v) (h : Blk w g t (idxC v s gm)) : Blk (w.setCell ⟨g, 64, none⟩ s') g t (idxC v s' gm) := by
  have := h.set_ 64 s'
  have e : (idxC v s gm).setIfInBounds 64 s' = idxC v s' gm := by
    unfold idxC
    rw [Array.setIfInBounds_append_right (by rw [vecA_size, hv.len]; exact Nat.le_refl _), vecA_size, hv.len]; rfl
  rw [e] at this
  exact this
theorem wpList_mapput {P : Program} {ops : Array Oper} {rest : List Oper} {a : Act} {w w' : World} {Q : Exit → Act → World → Prop} {d : Option Tmp} {ty t : TypeId} {pos : String} {after : Array Edge} {m x y : Operand} {mv kv v : Value} (hm : a.eval m = mv) (hx : a.eval x = kv) (hy : a.eval y = v) (hr : (Instr.mapUpdate t mv kv v).run P w = .ok () w')
    (h : wpList P ops Q rest (a.put d undef) w') : wpList P ops Q (⟨d, .mapUpdate t m x y, ty, pos, after, none⟩ :: rest) a w :=
  wpList_plain rfl fun _ hK => by
    unfold Oper.wp execOp
    simp only [hm, hx, hy, Sem.run_bind, hr, Result.andThen_ok, Sem.run_pure]
    exact hK _ _ h
end Go.Proofs.YtihggkmjalofiaaGreatDoor

/- Regions that draw their order, step by step: more operations. No program in sight but as a variable. -/
namespace Go.Proofs.YtihggkmjalofiaaGreatDoor
open Go.RowKit

section
variable {ρ : Operand → Value} {d : Option Tmp} {s ty : TypeId} {x y : Operand} {pos : String} {after : Array Edge} {gd : Option (Nat × Bool)} {v pv iv : Value} {P : Program} {w : World}
theorem exNil {a : Addr} (hx : ρ x = .pointer (some a)) : (execOp ρ ⟨d, .nilCheck x, ty, pos, after, gd⟩).run P w = .ok (.value (.pointer (some a))) w := by
  unfold execOp; simp only [hx, Sem.run_pure]
theorem exMove (hx : ρ x = v) : (execOp ρ ⟨d, .move x, ty, pos, after, gd⟩).run P w = .ok (.value v) w := by
  unfold execOp; simp only [hx, Sem.run_pure]
theorem exAssign (hx : ρ x = v) : (execOp ρ ⟨d, .assign x, ty, pos, after, gd⟩).run P w = .ok (.value v) w := by
  unfold execOp; simp only [hx, Sem.run_pure]
theorem exPickT {z : Operand} (hx : ρ x = .bool true) (hy : ρ y = v) : (execOp ρ ⟨d, .pick x y z, ty, pos, after, gd⟩).run P w = .ok (.value v) w := by
  unfold execOp; simp only [hx, hy, asBool, Sem.run_bind, Sem.run_pure, Result.andThen_ok, if_true]
theorem exPickF {z : Operand} (hx : ρ x = .bool false) (hy : ρ z = v) : (execOp ρ ⟨d, .pick x y z, ty, pos, after, gd⟩).run P w = .ok (.value v) w := by
  unfold execOp; simp only [hx, hy, asBool, Sem.run_bind, Sem.run_pure, Result.andThen_ok, Bool.false_eq_true, if_false]
theorem exBin {op : BinOp} {t rt : TypeId} {xv yv : Value} (hx : ρ x = xv) (hy : ρ y = yv) (hg : (eqGuard op t x y xv yv).run P w = .ok () w) (hr : (binOp op t xv yv).run P w = .ok v w) : (execOp ρ ⟨d, .binOp op t x y rt, ty, pos, after, gd⟩).run P w = .ok (.value v) w := by
  unfold execOp; simp only [hx, hy, Sem.run_bind, hg, hr, Result.andThen_ok, Sem.run_pure]
theorem exLen {t : TypeId} {A : Option Addr} {n c : Nat} {D : TypeId} (ht : P.underlying t = some (.slice D)) (hx : ρ x = .slice A n c) : (execOp ρ ⟨d, .call { callee := .builtin .len, args := #[x], argTypes := #[t] }, ty, pos, after, gd⟩).run P w = .ok (.value (.int .i64 n)) w := by
  unfold execOp
  simp [resolve, invoke, builtin, hx, Builtin.len_, run_underlying ht, goInt]
theorem exMid {b o : Nat} {cs : List Value} {D : TypeDesc} (hx : ρ x = .pointer (some ⟨b, o, none⟩)) (hc : w.rangeAt b o cs) (hu : P.underlying s = some D) (hd : D.isRow = true) (hi : (P.info? s).map (·.size) = some cs.length) :
    (execOp ρ ⟨d, .load s x, ty, pos, after, gd⟩).run P w = .ok (.value (.agg cs.toArray)) w := by
  unfold execOp; simp only [hx, Instr.loadAt, Instr.sureAddr, Sem.run_bind, Sem.run_pure, Result.andThen_ok, run_loadVar_mid w b o s cs D hc hu hd hi]
theorem exLook {t : TypeId} {m : Operand} {mv kv : Value} {ok : Bool} (hm : ρ m = mv) (hx : ρ x = kv) (hr : (Instr.lookup t mv kv ok).run P w = .ok v w) : (execOp ρ ⟨d, .lookup t m x ok, ty, pos, after, gd⟩).run P w = .ok (.value v) w := by
  unfold execOp; simp only [hm, hx, Sem.run_bind, hr, Result.andThen_ok, Sem.run_pure]
end
section
variable {P : Program} {Q : Exit → Act → World → Prop} {K : Act → World → Prop} {a : Act} {w : World} {d : Option Tmp} {ty : TypeId} {pos : String} {after : Array Edge} {gd : Option (Nat × Bool)}
theorem wp_loadedM {s : TypeId} {x : Operand} {b o : Nat} {cs : List Value} {D : TypeDesc} (hx : a.eval x = .pointer (some ⟨b, o, none⟩)) (hc : w.rangeAt b o cs) (hu : P.underlying s = some D) (hd : D.isRow = true) (hi : (P.info? s).map (·.size) = some cs.length)
    (h : K (a.put d (.agg cs.toArray)) w) : Oper.wp P ⟨d, .load s x, ty, pos, after, gd⟩ a w K Q := by
  unfold Oper.wp
  rw [exMid hx hc hu hd hi]
  exact h
/-- a slice literal of one struct -/
theorem wp_lit1 {t e : TypeId} {size bytes : Nat} (T : SlT P t e size bytes) {x : Operand} {cs : List Value} (hl : cs.length = size) (hs : size ≤ 16777216) (hx : a.eval x = .agg cs.toArray)
    (h : K (a.put d (.slice (some ⟨w.heap.size, 0, none⟩) 1 1)) (w.alloc (.cells cs.toArray e))) : Oper.wp P ⟨d, .buildSlice t 1 #[(0, x)], ty, pos, after, gd⟩ a w K Q := by
  obtain ⟨i, z, hi, hz, hsz, hby, hzs⟩ := T.hi
  have hpos := T.pos
  refine wp_buildSlice t e 1 #[(0, x)] rfl cs.toArray i z T.ht hi hz (by rw [hsz]; omega) (by rw [hsz]; omega) ?_ h
  have := fill_vals hpos [cs] (by simpa using hl) ((Array.range (1 * size)).map (z.cells[· % z.cells.size]!)) (by simp)
  rw [hsz]
  simpa [hx] using this
/-- an append of it: the row's own block alone has turned, and the row stays, or is new -/
theorem wp_pushF {w0 : World} {s x : Operand} {t e : TypeId} {size bytes : Nat} (T : SlT P t e size bytes)
    {base : Nat} {v : Value} {n : Nat} {xs : List Value} (hown : w0.ownsRow base e size v n xs) (cs : List Value) (hl : cs.length = size) (h1 : ∀ u ∈ cs, u.oneCell' = true) (hbase : base ≤ w0.heap.size)
    (hb : (n + 1) * bytes ≤ 140737488355328) (hm : n + 1 ≤ maxLen)
    (hs : a.eval s = v) (hx : a.eval x = .slice (some ⟨w0.heap.size, 0, none⟩) 1 1) (hw : w = w0.alloc (.cells cs.toArray e))
    (h : ∀ v' w', w'.ownsRow base e size v' (n + 1) (xs ++ cs) → Kept (fun k => v.ownBlock = some k) w0 w' → (∀ k, v'.ownBlock = some k → v.ownBlock = some k ∨ w0.heap.size ≤ k) → K (a.put d v') w') :
    Oper.wp P ⟨d, .call { callee := .builtin .append, args := #[s, x], argTypes := #[t, t] }, ty, pos, after, gd⟩ a w K Q := by
  obtain ⟨i, z, hi, hz, hsz, hby, hzs⟩ := T.hi
  subst hw
  have hown' := hown.alloc (.cells cs.toArray e)
  obtain ⟨v', w', hr, h2, h3, h4⟩ := run_append_stays (P := P) (w := w0.alloc (.cells cs.toArray e)) base t ty e i z size bytes T.ht hi hz hsz hby hzs T.pos v n xs hown' ⟨w0.heap.size, 0, none⟩ 1 1 cs (by omega) (news_new w0 e cs) h1 hm hb (by simp; omega)
  unfold Oper.wp execOp
  simp only [resolve, invoke, builtin, Sem.run_bind, Sem.run_pure, Result.andThen_ok, List.map_toArray, List.map_cons, List.map_nil, hs, hx, hr]
  refine h v' w' h2 ?_ fun k hk => (h4 k hk).elim .inl fun e => .inr (by simp at e; omega)
  exact ⟨h3.os, h3.tape, h3.output, Nat.le_trans (by simp) h3.size, fun k hk hn => (h3.block k (by simp; omega) fun e => hn e.symm).trans (Below.heap_alloc w0 _ k hk)⟩
end
end Go.Proofs.YtihggkmjalofiaaGreatDoor
