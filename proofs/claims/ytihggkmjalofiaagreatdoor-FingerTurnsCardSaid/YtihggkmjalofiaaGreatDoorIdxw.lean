/- Texts of general use, one behind another. -/
import Derived.Test.YtihggkmjalofiaaGreatDoorGen
import Derived.Test.YtihggkmjalofiaaGreatDoorIdxa
import Derived.Test.YtihggkmjalofiaaGreatDoorLists
import Derived.Test.YtihggkmjalofiaaGreatDoorPaws
import Derived.Deep.DeepCutAuto

/- Guarded operations of a region that keeps its order: a struct or an array loaded; an append of one literal element whose row is known to stay or to be new; a lookup in a region that draws its order. No program in sight but as a variable. -/
namespace Go.Proofs.YtihggkmjalofiaaGreatDoor
open Go.RowKit

section
variable {P : Program} {ops : Array Oper} {rest : List Oper} {o : Oper} {a : Act} {w : World} {Q : Exit → Act → World → Prop}
theorem wpList_wanted (hw : Region.wanted o (yielded ops a.tmps) = true) (h : ∀ K : Act → World → Prop, (∀ a w, wpList P ops Q rest a w → K a w) → o.wp P a w K Q) : wpList P ops Q (o :: rest) a w :=
  wpList_step fun K hK => by rw [if_pos hw]; exact h K hK
theorem wpList_load_rowG (hw : Region.wanted o (yielded ops a.tmps) = true) (ty : TypeId) (x : Operand) (ho : o.op = .load ty x)
    (g : Nat) (hx : a.eval x = .pointer (some ⟨g, 0, none⟩)) (t : TypeId) (cs : Array Value) (fr : Nat × Nat) (d : TypeDesc) (hg : w.heap[g]? = some (.cells cs t fr))
    (hu : P.underlying ty = some d) (hd : (match d with | .struct _ | .array _ _ => true | _ => false) = true) (hi : (P.info? ty).map (·.size) = some cs.size)
    (h : wpList P ops Q rest (a.put o.dst (.agg cs)) w) : wpList P ops Q (o :: rest) a w :=
  wpList_wanted hw fun _ hK => wp_load_row ty x ho g hx t cs fr d hg hu hd hi (hK _ _ h)
theorem wpList_load_midG (hw : Region.wanted o (yielded ops a.tmps) = true) (ty : TypeId) (x : Operand) (ho : o.op = .load ty x)
    (b k : Nat) (hx : a.eval x = .pointer (some ⟨b, k, none⟩)) (cs : List Value) (d : TypeDesc) (hc : w.rangeAt b k cs)
    (hu : P.underlying ty = some d) (hd : d.isRow = true) (hi : (P.info? ty).map (·.size) = some cs.length)
    (h : wpList P ops Q rest (a.put o.dst (.agg cs.toArray)) w) : wpList P ops Q (o :: rest) a w :=
  wpList_wanted hw fun _ hK => wp_load_mid ty x ho b k hx cs d hc hu hd hi (hK _ _ h)
/-- an append of one literal element: the row's own block alone has turned, and the row stays, or is new -/
theorem wpList_pushF {w0 : World} {d : Option Tmp} {ty : TypeId} {pos : String} {after : Array Edge} {s x : Operand} {t e : TypeId} {size bytes : Nat} (T : SlT P t e size bytes)
    {base : Nat} {v : Value} {n : Nat} {xs : List Value} (hown : w0.ownsRow base e size v n xs) (cs : List Value) (hl : cs.length = size) (h1 : ∀ u ∈ cs, u.oneCell' = true) (hbase : base ≤ w0.heap.size)
    (hb : (n + 1) * bytes ≤ 140737488355328) (hm : n + 1 ≤ maxLen)
    (hs : a.eval s = v) (hx : a.eval x = .slice (some ⟨w0.heap.size, 0, none⟩) 1 1) (hw : w = w0.alloc (.cells cs.toArray e))
    (h : ∀ v' w', w'.ownsRow base e size v' (n + 1) (xs ++ cs) → Kept (fun k => v.ownBlock = some k) w0 w' → (∀ k, v'.ownBlock = some k → v.ownBlock = some k ∨ w0.heap.size ≤ k) → wpList P ops Q rest (a.put d v') w') :
    wpList P ops Q (⟨d, .call { callee := .builtin .append, args := #[s, x], argTypes := #[t, t] }, ty, pos, after, none⟩ :: rest) a w := by
  obtain ⟨i, z, hi, hz, hsz, hby, hzs⟩ := T.hi
  subst hw
  have hown' := hown.alloc (.cells cs.toArray e)
  obtain ⟨v', w', hr, h2, h3, h4⟩ := run_append_stays (P := P) (w := w0.alloc (.cells cs.toArray e)) base t ty e i z size bytes T.ht hi hz hsz hby hzs T.pos v n xs hown' ⟨w0.heap.size, 0, none⟩ 1 1 cs (by omega) (news_new w0 e cs) h1 hm hb (by simp; omega)
  refine wpList_plain rfl fun K hK => ?_
  unfold Oper.wp execOp
  simp only [resolve, invoke, builtin, Sem.run_bind, Sem.run_pure, Result.andThen_ok, List.map_toArray, List.map_cons, List.map_nil, hs, hx, hr]
  refine hK _ _ (h v' w' h2 ?_ fun k hk => (h4 k hk).elim .inl fun e => .inr (by simp at e; omega))
  exact ⟨h3.os, h3.tape, h3.output, Nat.le_trans (by simp) h3.size, fun k hk hn => (h3.block k (by simp; omega) fun e => hn e.symm).trans (Below.heap_alloc w0 _ k hk)⟩
end
end Go.Proofs.YtihggkmjalofiaaGreatDoor

/- Patches that lie in known blocks; an index as it lies. -/
namespace Go.Proofs.YtihggkmjalofiaaGreatDoor
open Go.RowKit

/-- whatever a slice holds lies in a block of G -/
def InB (G : Nat → Prop) (A : Option Addr) (n : Nat) : Prop := 0 < n → ∀ b o, A = some ⟨b, o, none⟩ → G b
/-- of the blocks of G nothing has turned -/
def Stay (G : Nat → Prop) (w w' : World) : Prop := w.heap.size ≤ w'.heap.size ∧ ∀ k, k < w.heap.size → G k → w'.heap[k]? = w.heap[k]?
section
variable {w w' : World} {F G : Nat → Prop}
theorem Kept.stay (h : Kept F w w') (hd : ∀ k, k < w.heap.size → G k → ¬ F k) : Stay G w w' := ⟨h.size, fun k hk hg => h.block k hk (hd k hk hg)⟩
theorem Stay.of_below (h : Below w.heap.size w w') : Stay G w w' := ⟨h.size, fun k hk _ => h.block k hk⟩
theorem Stay.mono (h : Stay F w w') (hg : ∀ k, G k → F k) : Stay G w w' := ⟨h.1, fun k hk e => h.2 k hk (hg k e)⟩
theorem InB.mono {A : Option Addr} {n : Nat} (h : InB F A n) (hg : ∀ k, F k → G k) : InB G A n := fun hn b o e => hg b (h hn b o e)
theorem Sl.stay {B size n : Nat} {A : Option Addr} {xs : List Value} (h : Sl w B size A n xs) (hG : InB G A n) (hB : B ≤ w.heap.size) (hk : Stay G w w') : Sl w' B size A n xs :=
  ⟨h.1, fun hn => by
    obtain ⟨b, o, e, hb, hc⟩ := h.2 hn
    exact ⟨b, o, e, hb, fun j hj => (World.cell?_of_block (a := ⟨b, o + j, none⟩) (hk.2 b (by omega) (hG hn b o e))).trans (hc j hj)⟩⟩
theorem PidsAt.stay {A : Option Addr} {n : Nat} {l : List PidV} (h : PidsAt w A n l) (hG : InB G A n) (hk : Stay G w w') : PidsAt w' A n l := ⟨h.len, (h.sl.stay hG (Nat.le_refl _) hk).more hk.1⟩
theorem OpsAt.stay {A : Option Addr} {n : Nat} {l : List OpV} (h : OpsAt w A n l) (hG : InB G A n) (hk : Stay G w w') : OpsAt w' A n l := ⟨h.len, (h.sl.stay hG (Nat.le_refl _) hk).more hk.1, h.ok⟩
theorem own_inB {base size n : Nat} {e : TypeId} {A : Option Addr} {c : Nat} {xs : List Value} (h : w.ownsRow base e size (.slice A n c) n xs) : InB (fun k => base ≤ k ∧ k < w.heap.size) A n := by
  intro hn b o e
  subst e
  exact h.lt b rfl
end
/-- a patch whose lists lie in G -/
structure PatIn (w : World) (G : Nat → Prop) (r : List Value) (p : PatV) : Prop where
  ex : ∃ A c A' c', r = patC p.1 A p.2.1.length c A' p.2.2.length c' ∧ PidsAt w A p.2.1.length p.2.1 ∧ OpsAt w A' p.2.2.length p.2.2 ∧ InB G A p.2.1.length ∧ InB G A' p.2.2.length
  len1 : p.2.1.length ≤ maxLen
  len2 : p.2.2.length ≤ maxLen
section
variable {w w' : World} {F G : Nat → Prop} {r : List Value} {p : PatV}
theorem PatIn.at_ (h : PatIn w G r p) : PatAt w r p := by
  obtain ⟨⟨A, c, A', c', e, h1, h2, _⟩, h3, h4⟩ := h
  exact ⟨⟨A, c, A', c', e, h1, h2⟩, h3, h4⟩
theorem PatIn.stay (h : PatIn w G r p) (hk : Stay G w w') : PatIn w' G r p := by
  obtain ⟨⟨A, c, A', c', e, h1, h2, i1, i2⟩, h3, h4⟩ := h
  exact ⟨⟨A, c, A', c', e, h1.stay i1 hk, h2.stay i2 hk, i1, i2⟩, h3, h4⟩
theorem PatIn.mono (h : PatIn w F r p) (hg : ∀ k, F k → G k) : PatIn w G r p := by
  obtain ⟨⟨A, c, A', c', e, h1, h2, i1, i2⟩, h3, h4⟩ := h
  exact ⟨⟨A, c, A', c', e, h1, h2, i1.mono hg, i2.mono hg⟩, h3, h4⟩
theorem PatIn.ext (h : PatIn w G r p) (hb : Below w.heap.size w w') : PatIn w' G r p := h.stay (Stay.of_below hb)
theorem PatIn.len4 (h : PatIn w G r p) : r.length = 4 := h.at_.len4
theorem PatIn.one (h : PatIn w G r p) : ∀ u ∈ r, u.oneCell' = true := h.at_.one
/-- what came in lies in old blocks -/
theorem PatAt.in_ (h : PatAt w r p) : PatIn w (fun k => k < w.heap.size) r p := by
  obtain ⟨⟨A, c, A', c', e, h1, h2⟩, h3, h4⟩ := h
  refine ⟨⟨A, c, A', c', e, h1, h2, ?_, ?_⟩, h3, h4⟩
  · intro hn b o ea
    obtain ⟨b', o', e', hb, _⟩ := h1.sl.2 hn
    rw [ea] at e'; injection e' with e'; injection e' with e1 _; show b < _; rw [e1]; exact hb
  · intro hn b o ea
    obtain ⟨b', o', e', hb, _⟩ := h2.sl.2 hn
    rw [ea] at e'; injection e' with e'; injection e' with e1 _; show b < _; rw [e1]; exact hb
theorem PatAt.oks (h : PatAt w r p) : ∀ o ∈ p.2.2, OpV.ok o := by
  obtain ⟨⟨A, c, A', c', e, h1, h2⟩, h3, h4⟩ := h
  exact h2.ok
end
def RowsIn (w : World) (G : Nat → Prop) (rows : List (List Value)) (l : List PatV) : Prop := rows.length = l.length ∧ ∀ (k : Nat) (r : List Value) (p : PatV), rows[k]? = some r → l[k]? = some p → PatIn w G r p
section
variable {w w' : World} {F G : Nat → Prop} {rows : List (List Value)} {l : List PatV}
theorem RowsIn.rowsP (h : RowsIn w G rows l) : RowsP w rows l := ⟨h.1, fun k r p h1 h2 => (h.2 k r p h1 h2).at_⟩
theorem RowsIn.stay (h : RowsIn w G rows l) (hk : Stay G w w') : RowsIn w' G rows l := ⟨h.1, fun k r p h1 h2 => (h.2 k r p h1 h2).stay hk⟩
theorem RowsIn.mono (h : RowsIn w F rows l) (hg : ∀ k, F k → G k) : RowsIn w G rows l := ⟨h.1, fun k r p h1 h2 => (h.2 k r p h1 h2).mono hg⟩
theorem RowsIn.nil (w : World) (G : Nat → Prop) : RowsIn w G [] [] := ⟨rfl, fun _ _ _ h => by simp at h⟩
theorem RowsIn.snoc {r : List Value} {p : PatV} (h : RowsIn w G rows l) (hp : PatIn w G r p) : RowsIn w G (rows ++ [r]) (l ++ [p]) := by
  refine ⟨by simp [h.1], fun k r' p' h1 h2 => ?_⟩
  rcases Nat.lt_or_ge k rows.length with hk | hk
  · rw [List.getElem?_append_left hk] at h1
    rw [List.getElem?_append_left (by rw [← h.1]; exact hk)] at h2
    exact h.2 k r' p' h1 h2
  · rw [List.getElem?_append_right hk] at h1
    rw [List.getElem?_append_right (by rw [← h.1]; exact hk), ← h.1] at h2
    match k - rows.length, h1, h2 with
    | 0, h1, h2 =>
      obtain rfl : r = r' := by simpa using h1
      obtain rfl : p = p' := by simpa using h2
      exact hp
    | j + 1, h1, _ => simp at h1
theorem RowsP.in_ (h : RowsP w rows l) : RowsIn w (fun k => k < w.heap.size) rows l := ⟨h.1, fun k r p h1 h2 => (h.2 k r p h1 h2).in_⟩
end
/-- a slice of patches that lies in G, with all that it leads to -/
structure PatsIn (w : World) (G : Nat → Prop) (A : Option Addr) (n : Nat) (l : List PatV) : Prop where
  len : l.length = n
  inb : InB G A n
  ex : ∃ rows, RowsIn w G rows l ∧ Sl w w.heap.size 4 A n rows.flatten
section
variable {w w' : World} {F G : Nat → Prop} {A : Option Addr} {n : Nat} {l : List PatV}
theorem PatsIn.at_ (h : PatsIn w G A n l) : PatsAt w A n l := by
  obtain ⟨rows, h1, h2⟩ := h.ex
  exact ⟨h.len, rows, h1.rowsP, h2⟩
theorem PatsIn.stay (h : PatsIn w G A n l) (hk : Stay G w w') : PatsIn w' G A n l := by
  obtain ⟨rows, h1, h2⟩ := h.ex
  exact ⟨h.len, h.inb, rows, h1.stay hk, (h2.stay h.inb (Nat.le_refl _) hk).more hk.1⟩
theorem PatsIn.mono (h : PatsIn w F A n l) (hg : ∀ k, F k → G k) : PatsIn w G A n l := by
  obtain ⟨rows, h1, h2⟩ := h.ex
  exact ⟨h.len, h.inb.mono hg, rows, h1.mono hg, h2⟩
theorem PatsIn.ext (h : PatsIn w G A n l) (hb : Below w.heap.size w w') : PatsIn w' G A n l := h.stay (Stay.of_below hb)
theorem PatsAt.in_ (h : PatsAt w A n l) : PatsIn w (fun k => k < w.heap.size) A n l := by
  obtain ⟨rows, h1, h2⟩ := h.ex
  refine ⟨h.len, fun hn b o ea => ?_, rows, h1.in_, h2⟩
  obtain ⟨b', o', e', hb, _⟩ := h2.2 hn
  rw [ea] at e'; injection e' with e'; injection e' with e1 _; show b < _; rw [e1]; exact hb
end

/-- a row of patches of one's own, each with lists of its own: all made from block B on -/
def OwnC (B : Nat) (w : World) (s : Value) (l : List PatV) : Prop := ∃ rows D, w.ownsRow B 31 4 s l.length rows.flatten ∧ RowsIn w D rows l ∧ ∀ k, D k → B ≤ k ∧ k < w.heap.size ∧ s.ownBlock ≠ some k
section
variable {w w' : World} {B : Nat} {s : Value} {l : List PatV}
theorem OwnC.nil (B : Nat) (w : World) : OwnC B w (.slice none 0 0) [] := ⟨[], fun _ => False, World.ownsRow_nil _ _ _ _, RowsIn.nil w _, fun _ h => h.elim⟩
theorem OwnC.stay (h : OwnC B w s l) (hk : Stay (fun k => B ≤ k) w w') : OwnC B w' s l := by
  obtain ⟨rows, D, h1, h2, h3⟩ := h
  exact ⟨rows, D, own_keepF h1 (fun g e => hk.2 g (h1.lt g e).2 (h1.lt g e).1), h2.stay (hk.mono fun k e => (h3 k e).1), fun k e => ⟨(h3 k e).1, Nat.lt_of_lt_of_le (h3 k e).2.1 hk.1, (h3 k e).2.2⟩⟩
theorem OwnC.ext (h : OwnC B w s l) (hb : Below w.heap.size w w') : OwnC B w' s l := h.stay (Stay.of_below hb)
theorem OwnC.mono {B' : Nat} (h : OwnC B w s l) (hB : B' ≤ B) : OwnC B' w s l := by
  obtain ⟨rows, D, h1, h2, h3⟩ := h
  exact ⟨rows, D, own_rebase h1 (fun k e => Nat.le_trans hB (h1.lt k e).1), h2, fun k e => ⟨Nat.le_trans hB (h3 k e).1, (h3 k e).2⟩⟩
theorem OwnC.slice (h : OwnC B w s l) : ∃ A c, s = .slice A l.length c ∧ l.length ≤ c := by
  obtain ⟨rows, D, h1, _⟩ := h
  obtain ⟨A, c, rfl, hc, _⟩ := Sl.of_own h1
  exact ⟨A, c, rfl, hc⟩
theorem OwnC.pats {A : Option Addr} {c : Nat} (h : OwnC B w (.slice A l.length c) l) : PatsIn w (fun k => B ≤ k ∧ k < w.heap.size) A l.length l := by
  obtain ⟨rows, D, h1, h2, h3⟩ := h
  obtain ⟨A', c', e, _, hs⟩ := Sl.of_own h1
  injection e with e1 _ _
  subst e1
  exact ⟨rfl, own_inB h1, rows, h2.mono fun k e => ⟨(h3 k e).1, (h3 k e).2.1⟩, hs⟩
/-- one more that was copied between w and w0, and pushed -/
theorem OwnC.push {w0 : World} {v : Value} {r : List Value} {p : PatV} {C : Nat} {rows : List (List Value)} {D : Nat → Prop} (ho : w'.ownsRow B 31 4 v (l.length + 1) (rows.flatten ++ r)) (hk : Kept (fun k => s.ownBlock = some k) w0 w')
    (hv : ∀ k, v.ownBlock = some k → s.ownBlock = some k ∨ w0.heap.size ≤ k) (hr : RowsIn w0 D rows l) (hD : ∀ k, D k → B ≤ k ∧ k < w0.heap.size ∧ s.ownBlock ≠ some k) (hp : PatIn w0 (fun k => C ≤ k ∧ k < w0.heap.size) r p) (hC : B ≤ C) (hs : ∀ k, s.ownBlock = some k → k < C) : OwnC B w' v (l ++ [p]) := by
  have st : Stay (fun k => D k ∨ C ≤ k ∧ k < w0.heap.size) w0 w' := hk.stay fun k _ hd e => hd.elim (fun hd => (hD k hd).2.2 e) (fun hd => by have := hs k e; omega)
  refine ⟨rows ++ [r], fun k => D k ∨ C ≤ k ∧ k < w0.heap.size, ?_, ((hr.mono fun k hd => .inl hd).snoc (hp.mono fun k hd => .inr hd)).stay st, fun k hd => ?_⟩
  · rw [List.length_append, List.flatten_append]
    simpa using ho
  · have hlt : B ≤ k ∧ k < w0.heap.size := hd.elim (fun hd => ⟨(hD k hd).1, (hD k hd).2.1⟩) (fun hd => ⟨by omega, hd.2⟩)
    refine ⟨hlt.1, Nat.lt_of_lt_of_le hlt.2 hk.size, fun e => ?_⟩
    rcases hv k e with e | e
    · exact hd.elim (fun hd => (hD k hd).2.2 e) (fun hd => by have := hs k e; omega)
    · omega
end
/-- an index's cells -/
def idxC (v : List Int) (s : Value) (gm : Nat) : Array Value := vecA v ++ #[s, .map (some gm)]
def idxM (L : List PatV) : List (Value × Value) := L.mapIdx fun i p => (.agg (encP p.1).toArray, .int .i64 ((i : Nat) : Int))
/-- an index as it lies: its own blocks are those of F -/
structure IdxAt (w : World) (F : Nat → Prop) (g : Nat) (L : List PatV) : Prop where
  ok : IdxOk L
  lt : ∀ k, F k → k < w.heap.size
  self : F g
  ex : ∃ s gm rows D, Blk w g 169 (idxC (vecL L) s gm) ∧ F gm ∧ MapIs Tryz.prog 27 w gm (idxM L) ∧ w.ownsRow 0 31 4 s L.length rows.flatten ∧ (∀ k, s.ownBlock = some k → F k) ∧ RowsIn w D rows L ∧ ∀ k, D k → F k ∧ k ≠ g ∧ k ≠ gm ∧ s.ownBlock ≠ some k
theorem IdxAt.stay {w w' : World} {F : Nat → Prop} {g : Nat} {L : List PatV} (h : IdxAt w F g L) (hk : Stay F w w') : IdxAt w' F g L := by
  obtain ⟨h1, h2, h3, s, gm, rows, D, k1, k2, k3, k4, k5, k6, k7⟩ := h
  exact ⟨h1, fun k hF => Nat.lt_of_lt_of_le (h2 k hF) hk.1, h3, s, gm, rows, D, k1.keep (hk.2 g (h2 g h3) h3), k2, k3.keep (hk.2 gm (h2 gm k2) k2), own_keepF k4 (fun k e => hk.2 k (h2 k (k5 k e)) (k5 k e)), k5, k6.stay (hk.mono fun k e => (k7 k e).1), k7⟩
theorem IdxAt.ext {w w' : World} {F : Nat → Prop} {g : Nat} {L : List PatV} (h : IdxAt w F g L) (hb : Below w.heap.size w w') : IdxAt w' F g L := h.stay (Stay.of_below hb)
end Go.Proofs.YtihggkmjalofiaaGreatDoor

/- An index: what it holds is told: walked. -/
namespace Go.Proofs.YtihggkmjalofiaaGreatDoor
open Go.RowKit

section
variable {w : World} {g gm : Nat} {t : TypeId} {v : List Int} {s : Value}
theorem idx_s (hv : VecOk v) (h : Blk w g t (idxC v s gm)) : w.cell? ⟨g, 64, none⟩ = some s := by
  rw [h.cell 64]
  unfold idxC
  rw [Array.getElem?_append_right (by rw [vecA_size, hv.len]; exact Nat.le_refl _), vecA_size, hv.len]; rfl
theorem idx_m (hv : VecOk v) (h : Blk w g t (idxC v s gm)) : w.cell? ⟨g, 65, none⟩ = some (.map (some gm)) := by
  rw [h.cell 65]
  unfold idxC
  rw [Array.getElem?_append_right (by rw [vecA_size, hv.len]; omega), vecA_size, hv.len]; rfl
theorem idx_v (h : Blk w g t (idxC v s gm)) : w.rangeAt g 0 (v.map (Value.int .u16)) := by
  intro j u hj
  rw [Nat.zero_add, h.cell j]
  unfold idxC
  have hl := (List.getElem?_eq_some_iff.1 hj).1
  rw [List.length_map] at hl
  rw [Array.getElem?_append_left (by rw [vecA_size]; exact hl)]
  unfold vecA
  simpa using hj
end
/-- what an index's cells are, in any world that has only more -/
structure IdxCells (w : World) (F : Nat → Prop) (g : Nat) (L : List PatV) (A : Option Addr) (c gm : Nat) : Prop where
  s : ∀ z : Ext w, z.w.cell? ⟨g, 64, none⟩ = some (.slice A L.length c)
  m : ∀ z : Ext w, z.w.cell? ⟨g, 65, none⟩ = some (.map (some gm))
  v : w.rangeAt g 0 ((vecL L).map (Value.int .u16))
  lt : g < w.heap.size
  map : MapIs Tryz.prog 27 w gm (idxM L)
  pats : PatsIn w F A L.length L
theorem IdxAt.cells {w : World} {F : Nat → Prop} {g : Nat} {L : List PatV} (h : IdxAt w F g L) : ∃ A c gm, IdxCells w F g L A c gm := by
  obtain ⟨h1, h2, h3, s, gm, rows, D, k1, k2, k3, k4, k5, k6, k7⟩ := h
  obtain ⟨A, c, rfl, _, hs⟩ := Sl.of_own k4
  have hv := vecL_ok L
  exact ⟨A, c, gm, fun z => idx_s hv (k1.ext z.h), fun z => idx_m hv (k1.ext z.h), idx_v k1, h2 g h3, k3, rfl, fun _ b o e => k5 b (by subst e; rfl), rows, k6.mono fun k e => (k7 k e).1, hs⟩
theorem pid_range {w : World} {b o : Nat} {id : PidV} {A : Option Addr} {n c : Nat} {A' : Option Addr} {n' c' : Nat} (h : w.rangeAt b o (patC id A n c A' n' c')) : w.rangeAt b o (encP id) := fun j v hj =>
  match j, hj with
  | 0, hj => h 0 v hj
  | 1, hj => h 1 v hj
  | j + 2, hj => by simp [encP] at hj

end Go.Proofs.YtihggkmjalofiaaGreatDoor

/- An index: a patch by its name, those that a vector has not, all: walked. -/
namespace Go.Proofs.YtihggkmjalofiaaGreatDoor
open Go.RowKit

end Go.Proofs.YtihggkmjalofiaaGreatDoor

/- An index: a patch that is put: walked. -/
namespace Go.Proofs.YtihggkmjalofiaaGreatDoor
open Go.RowKit
open Go.ChangeMaps (setBlock)

theorem Blk.setCells {g : Nat} {t : TypeId} : ∀ (vs : List Value) (o : Nat) (w : World) (cs : Array Value), Blk w g t cs → ∃ cs', Blk (w.setCells g o vs) g t cs' ∧ cs'.size = cs.size ∧ ∀ j, j < cs.size → cs'[j]? = if o ≤ j ∧ j < o + vs.length then vs[j - o]? else cs[j]?
  | [], o, w, cs, h => ⟨cs, h, rfl, fun j _ => by rw [if_neg (by simp only [List.length_nil]; omega)]⟩
  | v :: vs, o, w, cs, h => by
    obtain ⟨cs', h1, h2, h3⟩ := Blk.setCells vs (o + 1) (w.setCell ⟨g, o, none⟩ v) _ (h.set_ o v)
    refine ⟨cs', h1, by rw [h2]; simp, fun j hj => ?_⟩
    rw [h3 j (by simpa using hj)]
    by_cases hc : o + 1 ≤ j ∧ j < o + 1 + vs.length
    · rw [if_pos hc, if_pos (by simp only [List.length_cons]; omega)]
      obtain ⟨m, rfl⟩ : ∃ m, j = o + 1 + m := ⟨j - (o + 1), by omega⟩
      rw [show o + 1 + m - (o + 1) = m by omega, show o + 1 + m - o = m + 1 by omega]; rfl
    · rw [if_neg hc]
      by_cases ho : j = o
      · subst ho
        rw [if_pos (by simp only [List.length_cons]; omega), Array.getElem?_setIfInBounds_self_of_lt hj]; simp
      · rw [if_neg (by simp only [List.length_cons]; omega), Array.getElem?_setIfInBounds_ne (fun e => ho e.symm)]
theorem Kept.setCells {F : Nat → Prop} {a : World} {g : Nat} (hg : F g ∨ a.heap.size ≤ g) : ∀ (vs : List Value) (o : Nat) (w : World), Kept F a w → Kept F a (w.setCells g o vs)
  | [], _, _, h => h
  | _ :: vs, o, _, h => Kept.setCells hg vs (o + 1) _ (h.setCell (p := ⟨g, o, none⟩) hg _)
theorem wpList_mapput {P : Program} {ops : Array Oper} {rest : List Oper} {a : Act} {w w' : World} {Q : Exit → Act → World → Prop} {d : Option Tmp} {ty t : TypeId} {pos : String} {after : Array Edge} {m x y : Operand} {mv kv v : Value} (hm : a.eval m = mv) (hx : a.eval x = kv) (hy : a.eval y = v) (hr : (Instr.mapUpdate t mv kv v).run P w = .ok () w')
    (h : wpList P ops Q rest (a.put d undef) w') : wpList P ops Q (⟨d, .mapUpdate t m x y, ty, pos, after, none⟩ :: rest) a w :=
  wpList_plain rfl fun _ hK => by
    unfold Oper.wp execOp
    simp only [hm, hx, hy, Sem.run_bind, hr, Result.andThen_ok, Sem.run_pure]
    exact hK _ _ h
end Go.Proofs.YtihggkmjalofiaaGreatDoor

/- Regions that draw their order, step by step: more operations. No program in sight but as a variable. -/
namespace Go.Proofs.YtihggkmjalofiaaGreatDoor
open Go.RowKit

section
variable {ρ : Operand → Value} {d : Option Tmp} {s ty : TypeId} {x y : Operand} {pos : String} {after : Array Edge} {gd : Option (Nat × Bool)} {v pv iv : Value} {P : Program} {w : World}
theorem exNil {a : Addr} (hx : ρ x = .pointer (some a)) : (execOp ρ ⟨d, .nilCheck x, ty, pos, after, gd⟩).run P w = .ok (.value (.pointer (some a))) w := by
  unfold execOp; simp only [hx, Sem.run_pure]
theorem exMove (hx : ρ x = v) : (execOp ρ ⟨d, .move x, ty, pos, after, gd⟩).run P w = .ok (.value v) w := by
  unfold execOp; simp only [hx, Sem.run_pure]
theorem exAssign (hx : ρ x = v) : (execOp ρ ⟨d, .assign x, ty, pos, after, gd⟩).run P w = .ok (.value v) w := by
  unfold execOp; simp only [hx, Sem.run_pure]
theorem exPickT {z : Operand} (hx : ρ x = .bool true) (hy : ρ y = v) : (execOp ρ ⟨d, .pick x y z, ty, pos, after, gd⟩).run P w = .ok (.value v) w := by
  unfold execOp; simp only [hx, hy, asBool, Sem.run_bind, Sem.run_pure, Result.andThen_ok, if_true]
theorem exPickF {z : Operand} (hx : ρ x = .bool false) (hy : ρ z = v) : (execOp ρ ⟨d, .pick x y z, ty, pos, after, gd⟩).run P w = .ok (.value v) w := by
  unfold execOp; simp only [hx, hy, asBool, Sem.run_bind, Sem.run_pure, Result.andThen_ok, Bool.false_eq_true, if_false]
theorem exBin {op : BinOp} {t rt : TypeId} {xv yv : Value} (hx : ρ x = xv) (hy : ρ y = yv) (hg : (eqGuard op t x y xv yv).run P w = .ok () w) (hr : (binOp op t xv yv).run P w = .ok v w) : (execOp ρ ⟨d, .binOp op t x y rt, ty, pos, after, gd⟩).run P w = .ok (.value v) w := by
  unfold execOp; simp only [hx, hy, Sem.run_bind, hg, hr, Result.andThen_ok, Sem.run_pure]
theorem exNot {t : TypeId} {b : Bool} (hx : ρ x = .bool b) : (execOp ρ ⟨d, .unOp .not t x, ty, pos, after, gd⟩).run P w = .ok (.value (.bool (!b))) w := by
  unfold execOp; simp [hx, Op.unary]
theorem exLen {t : TypeId} {A : Option Addr} {n c : Nat} {D : TypeId} (ht : P.underlying t = some (.slice D)) (hx : ρ x = .slice A n c) : (execOp ρ ⟨d, .call { callee := .builtin .len, args := #[x], argTypes := #[t] }, ty, pos, after, gd⟩).run P w = .ok (.value (.int .i64 n)) w := by
  unfold execOp
  simp [resolve, invoke, builtin, hx, Builtin.len_, run_underlying ht, goInt]
theorem exMid {b o : Nat} {cs : List Value} {D : TypeDesc} (hx : ρ x = .pointer (some ⟨b, o, none⟩)) (hc : w.rangeAt b o cs) (hu : P.underlying s = some D) (hd : D.isRow = true) (hi : (P.info? s).map (·.size) = some cs.length) :
    (execOp ρ ⟨d, .load s x, ty, pos, after, gd⟩).run P w = .ok (.value (.agg cs.toArray)) w := by
  unfold execOp; simp only [hx, Instr.loadAt, Instr.sureAddr, Sem.run_bind, Sem.run_pure, Result.andThen_ok, run_loadVar_mid w b o s cs D hc hu hd hi]
theorem exLook {t : TypeId} {m : Operand} {mv kv : Value} {ok : Bool} (hm : ρ m = mv) (hx : ρ x = kv) (hr : (Instr.lookup t mv kv ok).run P w = .ok v w) : (execOp ρ ⟨d, .lookup t m x ok, ty, pos, after, gd⟩).run P w = .ok (.value v) w := by
  unfold execOp; simp only [hm, hx, Sem.run_bind, hr, Result.andThen_ok, Sem.run_pure]
end
/-- an operation that its guard leaves out is taken first -/
theorem takeSkip {P : Program} {ops : Array Oper} {Q : Exit → Act → World → Prop} {S : World → Prop} {a : Act} {w : World} {d : Tmp} {op : Op} {ty : TypeId} {pos : String} {after : Array Edge} {gd : Option (Nat × Bool)} {i fuel : Nat} {ls : Array Bool} {md : Region.Mode} (hi : ops[i]? = some ⟨some d, op, ty, pos, after, gd⟩)
    (hs : Region.noSelect ops = true) (hf : Region.free md ops ls i = true) (hr : (Region.ready md ops ls).contains i = true) (hQ : ∀ c (a : Act) (w : World), Q (.panic c) (a.put (some d) undef) w → Q (.panic c) a w)
    (hw : Region.wanted ⟨some d, op, ty, pos, after, gd⟩ (yielded ops a.tmps) = false) (hS : S w)
    (h : wpAnyH P md ops Q S fuel (ls.setIfInBounds i true) (a.put (some d) undef) w) : wpAnyH P md ops Q S (fuel + 1) ls a w :=
  wpAnyH_take (oi := ⟨some d, op, ty, pos, after, gd⟩) hi hs hf hr hQ (.inr ⟨hw, rfl⟩) hS h
section
variable {P : Program} {Q : Exit → Act → World → Prop} {K : Act → World → Prop} {a : Act} {w : World} {d : Option Tmp} {ty : TypeId} {pos : String} {after : Array Edge} {gd : Option (Nat × Bool)}
end
end Go.Proofs.YtihggkmjalofiaaGreatDoor
