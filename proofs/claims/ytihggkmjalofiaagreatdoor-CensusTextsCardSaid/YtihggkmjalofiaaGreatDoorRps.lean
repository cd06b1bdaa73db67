/- Texts of general use, one behind another. -/
import Derived.Test.YtihggkmjalofiaaGreatDoorBufs
import Derived.Test.YtihggkmjalofiaaGreatDoorGrhs
import Derived.Test.YtihggkmjalofiaaGreatDoorVids
import Derived.Test.YtihggkmjalofiaaGreatDoorGre
import Derived.Test.YtihggkmjalofiaaGreatDoorGrjs
import Derived.Test.YtihggkmjalofiaaGreatDoorIdxz
import Derived.Test.YtihggkmjalofiaaGreatDoorPaws
import Derived.Test.YtihggkmjalofiaaGreatDoorSgs
import Derived.Test.YtihggkmjalofiaaGreatDoorIdxw
import Derived.Test.YtihggkmjalofiaaGreatDoorGras
import Derived.Test.YtihggkmjalofiaaGreatDoorVecs
import Derived.Deep.DeepCutAuto

/- The reference's numbers as bytes: walked. -/
namespace Go.Proofs.YtihggkmjalofiaaGreatDoor
open Go.RowKit

end Go.Proofs.YtihggkmjalofiaaGreatDoor

/- The reference's reading of a number: walked. -/
namespace Go.Proofs.YtihggkmjalofiaaGreatDoor
open Go.RowKit

/-- the number of its groups of seven bits -/
def hv : List UInt8 → Nat
  | [] => 0
  | x :: t => x.toNat % 128 + 128 * hv t
end Go.Proofs.YtihggkmjalofiaaGreatDoor

/- The reference's reader: a byte, a number, the end: walked. -/
namespace Go.Proofs.YtihggkmjalofiaaGreatDoor
open Go.RowKit

/-- the reference's reader: what was not read, and what was wrong; the bytes lie below block B -/
structure RrAt (w : World) (B g : Nat) (l : List UInt8) (e : Nat) : Prop where
  ge : B ≤ g
  ex : ∃ A c, Blk w g 178 #[.slice A l.length c, .int .i64 (e : Int)] ∧ l.length ≤ c ∧ c ≤ maxLen ∧ Sl w B 1 A l.length (encB l)
theorem RrAt.ext {w w' : World} {B g e : Nat} {l : List UInt8} (h : RrAt w B g l e) (hb : Below w.heap.size w w') : RrAt w' B g l e := by
  obtain ⟨A, c, h1, h2, h3, h4⟩ := h.ex
  exact ⟨h.ge, A, c, h1.ext hb, h2, h3, h4.below hb (by have := h1.lt; have := h.ge; omega)⟩
end Go.Proofs.YtihggkmjalofiaaGreatDoor

/- The reference's reader: a text: walked. -/
namespace Go.Proofs.YtihggkmjalofiaaGreatDoor
open Go.RowKit

theorem Sl.less {w : World} {B n k : Nat} {A : Option Addr} {l : List UInt8} (h : Sl w B 1 A n (encB l)) (hn : l.length = n) (hk : k ≤ n) : Sl w B 1 A k (encB (l.take k)) := by
  have hl : (l.take k).length = k := by rw [List.length_take]; omega
  refine ⟨by rw [encB_len, hl, Nat.mul_one], fun hp => ?_⟩
  obtain ⟨b, o, rfl, hb, hcell⟩ := h.2 (by omega)
  refine ⟨b, o, rfl, hb, fun j hj => ?_⟩
  rw [hcell _ (by omega), encB_at, encB_at, List.getElem?_take_of_lt (by omega)]
end Go.Proofs.YtihggkmjalofiaaGreatDoor

/- Texts of general use, one behind another. -/

/- The document's graph: an error, the steps, the names: plain laws; no program in sight. -/
namespace Go.Proofs.YtihggkmjalofiaaGreatDoor
open Go.RowKit

section
variable {α : Type} (key : α → Int) [DecidableEq α]
variable {key}
end
end Go.Proofs.YtihggkmjalofiaaGreatDoor

/- The document's graph: is a vertex one of a kind; are two lists the same: walked. -/
namespace Go.Proofs.YtihggkmjalofiaaGreatDoor
open Go.RowKit

end Go.Proofs.YtihggkmjalofiaaGreatDoor

/- The document's graph: which patches there are: walked. -/
namespace Go.Proofs.YtihggkmjalofiaaGreatDoor
open Go.RowKit

end Go.Proofs.YtihggkmjalofiaaGreatDoor

/- The document's graph: a step put into a list: walked. -/
namespace Go.Proofs.YtihggkmjalofiaaGreatDoor
open Go.RowKit

end Go.Proofs.YtihggkmjalofiaaGreatDoor

/- The document's graph: the names of all vertices; all steps: walked. -/
namespace Go.Proofs.YtihggkmjalofiaaGreatDoor
open Go.RowKit

end Go.Proofs.YtihggkmjalofiaaGreatDoor

/- The document's graph: all vertices, all files, what is of a kind, a file's steps: walked. -/
namespace Go.Proofs.YtihggkmjalofiaaGreatDoor
open Go.RowKit

end Go.Proofs.YtihggkmjalofiaaGreatDoor

/- The document's graph: what is of a kind, a file's steps: walked. -/
namespace Go.Proofs.YtihggkmjalofiaaGreatDoor
open Go.RowKit

end Go.Proofs.YtihggkmjalofiaaGreatDoor

/- The document's graph, and the program's, of the same patches, are the same: walked. -/
namespace Go.Proofs.YtihggkmjalofiaaGreatDoor
open Go.RowKit

theorem VidsAtS.of_own {w : World} {base n : Nat} {v : Value} {l : List VidV} (h : w.ownsRow base 120 3 v n (l.flatMap encV)) (hn : l.length = n) : ∃ A c, v = .slice A n c ∧ n ≤ c ∧ VidsAt w A n l := by
  obtain ⟨A, c, rfl, hc, hs⟩ := Sl.of_own h
  exact ⟨A, c, rfl, hc, hn, hs⟩
end Go.Proofs.YtihggkmjalofiaaGreatDoor

/- A slice literal of structs, in a region that draws its order. -/
namespace Go.Proofs.YtihggkmjalofiaaGreatDoor
open Go.RowKit

/-- a slice literal of structs, in a region that draws its order -/
theorem wp_lits {P : Program} {Q : Exit → Act → World → Prop} {K : Act → World → Prop} {a : Act} {w : World} {d : Option Tmp} {ty : TypeId} {pos : String} {after : Array Edge} {gd : Option (Nat × Bool)} {t e : TypeId} {size bytes : Nat} (T : SlT P t e size bytes) {len : Nat} {parts : Array (Nat × Operand)} (vs : List (List Value)) (hlen : len = vs.length) (hl : 0 < vs.length) (hv : ∀ x ∈ vs, x.length = size)
    (hs : vs.length * size ≤ 16777216) (hx : (parts.map fun (i, x) => (i, a.eval x)).toList = ((vs.map fun x => Value.agg x.toArray).zipIdx 0).map fun x => (x.2, x.1))
    (h : K (a.put d (.slice (some ⟨w.heap.size, 0, none⟩) len len)) (w.alloc (.cells vs.flatten.toArray e))) : Oper.wp P ⟨d, .buildSlice t len parts, ty, pos, after, gd⟩ a w K Q := by
  obtain ⟨i, z, hi, hz, hsz, hby, hzs⟩ := T.hi
  have hpos := T.pos
  subst hlen
  have h1 : 0 < vs.length * size := Nat.mul_pos hl hpos
  refine wp_buildSlice t e vs.length parts rfl vs.flatten.toArray i z T.ht hi hz (by rw [hsz]; omega) (by rw [hsz]; omega) ?_ h
  rw [hx, hsz]
  exact fill_vals hpos vs hv _ (by simp)
end Go.Proofs.YtihggkmjalofiaaGreatDoor

/- Texts of general use, one behind another. -/

/- The chapter's example of a graph: walked. -/
namespace Go.Proofs.YtihggkmjalofiaaGreatDoor
open Go.RowKit

end Go.Proofs.YtihggkmjalofiaaGreatDoor

/- The same patches make the same graph: the statement walked. -/
namespace Go.Proofs.YtihggkmjalofiaaGreatDoor
open Go.RowKit

/-- no two of the first k with one name -/
def OneN (l : List PatV) (k : Nat) : Prop := ∀ a b p q, a < k → b < a → l[a]? = some p → l[b]? = some q → p.1 = q.1 → p = q
def OneI (l : List PatV) (p : PatV) (j : Nat) : Prop := ∀ b q, b < j → l[b]? = some q → p.1 = q.1 → p = q
theorem OneN.snoc {l : List PatV} {k : Nat} {p : PatV} (h : OneN l k) (hp : l[k]? = some p) (hi : OneI l p k) : OneN l (k + 1) := fun a b p' q ha hb hp' hq e => by
  by_cases hk : a = k
  · subst hk
    rw [hp] at hp'
    obtain rfl := Option.some.inj hp'
    exact hi b q hb hq e
  · exact h a b p' q (by omega) hb hp' hq e
theorem OneI.snoc {l : List PatV} {p q : PatV} {j : Nat} (h : OneI l p j) (hq : l[j]? = some q) (hi : p.1 = q.1 → p = q) : OneI l p (j + 1) := fun b q' hb hq' e => by
  by_cases hk : b = j
  · subst hk
    rw [hq] at hq'
    obtain rfl := Option.some.inj hq'
    exact hi e
  · exact h b q' (by omega) hq' e
theorem OneN.all {l : List PatV} (h : OneN l l.length) : ∀ p ∈ l, ∀ q ∈ l, p.1 = q.1 → p = q := fun p hp q hq e => by
  obtain ⟨a, ha⟩ := List.mem_iff_getElem?.1 hp
  obtain ⟨b, hb⟩ := List.mem_iff_getElem?.1 hq
  have la := (List.getElem?_eq_some_iff.1 ha).1
  have lb := (List.getElem?_eq_some_iff.1 hb).1
  rcases Nat.lt_trichotomy b a with c | c | c
  · exact h a b p q la c ha hb e
  · subst c
    rw [ha] at hb
    exact Option.some.inj hb
  · exact (h b a q p lb c hb ha e.symm).symm
end Go.Proofs.YtihggkmjalofiaaGreatDoor

/- What GraphWhole needs beside: comparisons, walked again; what is applied hangs together. -/
namespace Go.Proofs.YtihggkmjalofiaaGreatDoor
open Go.RowKit

end Go.Proofs.YtihggkmjalofiaaGreatDoor

/- What is applied hangs together: the statement walked. -/
namespace Go.Proofs.YtihggkmjalofiaaGreatDoor
open Go.RowKit

end Go.Proofs.YtihggkmjalofiaaGreatDoor

/- Texts of general use, one behind another. -/

/- Of a nil index there is nothing: walked. -/
namespace Go.Proofs.YtihggkmjalofiaaGreatDoor
open Go.RowKit

end Go.Proofs.YtihggkmjalofiaaGreatDoor

/- An index's patches are handed back in rows of their own, each list in a block of its own that may be written: walked. -/
namespace Go.Proofs.YtihggkmjalofiaaGreatDoor
open Go.RowKit

/-- a block of cells none of which is frozen -/
def NFr (w : World) (k : Nat) : Prop := ∃ cs t, w.heap[k]? = some (.cells cs t (0, 0))
theorem NFr.keep {w w' : World} {k : Nat} (h : NFr w k) (e : w'.heap[k]? = w.heap[k]?) : NFr w' k := by
  obtain ⟨cs, t, h⟩ := h
  exact ⟨cs, t, e.trans h⟩
theorem NFr.fr {w : World} {k : Nat} (h : NFr w k) (o : Nat) : w.frozen? ⟨k, o, none⟩ = false := by
  obtain ⟨cs, t, h⟩ := h
  simp [World.frozen?, h]
def OwnN (B : Nat) (w : World) (s : Value) (l : List PatV) : Prop := ∃ rows D, w.ownsRow B 31 4 s l.length rows.flatten ∧ RowsIn w D rows l ∧ ∀ k, D k → B ≤ k ∧ k < w.heap.size ∧ s.ownBlock ≠ some k ∧ NFr w k
section
variable {w w' : World} {B : Nat} {s : Value} {l : List PatV}
theorem OwnN.nil (B : Nat) (w : World) : OwnN B w (.slice none 0 0) [] := ⟨[], fun _ => False, World.ownsRow_nil _ _ _ _, RowsIn.nil w _, fun _ h => h.elim⟩
theorem OwnN.stay (h : OwnN B w s l) (hk : Stay (fun k => B ≤ k) w w') : OwnN B w' s l := by
  obtain ⟨rows, D, h1, h2, h3⟩ := h
  exact ⟨rows, D, own_keepF h1 (fun g e => hk.2 g (h1.lt g e).2 (h1.lt g e).1), h2.stay (hk.mono fun k e => (h3 k e).1), fun k e => ⟨(h3 k e).1, Nat.lt_of_lt_of_le (h3 k e).2.1 hk.1, (h3 k e).2.2.1, (h3 k e).2.2.2.keep (hk.2 k (h3 k e).2.1 (h3 k e).1)⟩⟩
theorem OwnN.ext (h : OwnN B w s l) (hb : Below w.heap.size w w') : OwnN B w' s l := h.stay (Stay.of_below hb)
theorem OwnN.slice (h : OwnN B w s l) : ∃ A c, s = .slice A l.length c ∧ l.length ≤ c := by
  obtain ⟨rows, D, h1, _⟩ := h
  obtain ⟨A, c, rfl, hc, _⟩ := Sl.of_own h1
  exact ⟨A, c, rfl, hc⟩
theorem OwnN.mono {B' : Nat} (h : OwnN B w s l) (hB : B' ≤ B) : OwnN B' w s l := by
  obtain ⟨rows, D, h1, h2, h3⟩ := h
  exact ⟨rows, D, own_rebase h1 (fun k e => Nat.le_trans hB (h1.lt k e).1), h2, fun k e => ⟨Nat.le_trans hB (h3 k e).1, (h3 k e).2⟩⟩
theorem OwnN.push {w0 : World} {v : Value} {r : List Value} {p : PatV} {C : Nat} {rows : List (List Value)} {D : Nat → Prop} (ho : w'.ownsRow B 31 4 v (l.length + 1) (rows.flatten ++ r)) (hk : Kept (fun k => s.ownBlock = some k) w0 w')
    (hv : ∀ k, v.ownBlock = some k → s.ownBlock = some k ∨ w0.heap.size ≤ k) (hr : RowsIn w0 D rows l) (hD : ∀ k, D k → B ≤ k ∧ k < w0.heap.size ∧ s.ownBlock ≠ some k ∧ NFr w0 k) (hp : PatIn w0 (fun k => C ≤ k ∧ k < w0.heap.size ∧ NFr w0 k) r p) (hC : B ≤ C) (hs : ∀ k, s.ownBlock = some k → k < C) : OwnN B w' v (l ++ [p]) := by
  have st : Stay (fun k => D k ∨ C ≤ k ∧ k < w0.heap.size ∧ NFr w0 k) w0 w' := hk.stay fun k _ hd e => hd.elim (fun hd => (hD k hd).2.2.1 e) (fun hd => by have := hs k e; omega)
  refine ⟨rows ++ [r], fun k => D k ∨ C ≤ k ∧ k < w0.heap.size ∧ NFr w0 k, ?_, ((hr.mono fun k hd => .inl hd).snoc (hp.mono fun k hd => .inr hd)).stay st, fun k hd => ?_⟩
  · rw [List.length_append, List.flatten_append]
    simpa using ho
  · have hlt : B ≤ k ∧ k < w0.heap.size ∧ NFr w0 k := hd.elim (fun hd => ⟨(hD k hd).1, (hD k hd).2.1, (hD k hd).2.2.2⟩) (fun hd => ⟨by omega, hd.2⟩)
    refine ⟨hlt.1, Nat.lt_of_lt_of_le hlt.2.1 hk.size, fun e => ?_, hlt.2.2.keep (st.2 k hlt.2.1 hd)⟩
    rcases hv k e with e | e
    · exact hd.elim (fun hd => (hD k hd).2.2.1 e) (fun hd => by have := hs k e; omega)
    · omega
end
end Go.Proofs.YtihggkmjalofiaaGreatDoor

/- Rows of patches that are put behind one another, and written into: plain facts of memory; Get with lists that may be written: walked. -/
namespace Go.Proofs.YtihggkmjalofiaaGreatDoor
open Go.RowKit

theorem RowsIn.append {w : World} {G : Nat → Prop} {rows rows' : List (List Value)} {l l' : List PatV} (h : RowsIn w G rows l) (h' : RowsIn w G rows' l') : RowsIn w G (rows ++ rows') (l ++ l') := by
  refine ⟨by simp [h.1, h'.1], fun k r p h1 h2 => ?_⟩
  rcases Nat.lt_or_ge k rows.length with hk | hk
  · rw [List.getElem?_append_left hk] at h1
    rw [List.getElem?_append_left (by rw [← h.1]; exact hk)] at h2
    exact h.2 k r p h1 h2
  · rw [List.getElem?_append_right hk] at h1
    rw [List.getElem?_append_right (by rw [← h.1]; exact hk), ← h.1] at h2
    exact h'.2 _ r p h1 h2
theorem RowsIn.ones {w : World} {G : Nat → Prop} {rows : List (List Value)} {l : List PatV} (h : RowsIn w G rows l) : ∀ u ∈ rows.flatten, u.oneCell' = true := by
  intro u hu
  obtain ⟨r, hr, hur⟩ := List.mem_flatten.1 hu
  obtain ⟨j, hj, rfl⟩ := List.getElem_of_mem hr
  have hj' : j < l.length := by rw [← h.1]; exact hj
  exact (h.2 j _ _ (List.getElem?_eq_getElem hj) (List.getElem?_eq_getElem hj')).one u hur
/-- cells of a block that hold some number of a kind, whichever -/
def NumsAt (w : World) (k : IntKind) (b : Nat) (f : Nat → Nat) (n : Nat) : Prop := ∀ j, j < n → ∃ z, (Lit.int k z).wf = true ∧ w.cell? ⟨b, f j, none⟩ = some (.int k z)
theorem NumsAt.set {w : World} {k : IntKind} {b : Nat} {f : Nat → Nat} {n : Nat} (h : NumsAt w k b f n) {b' o : Nat} (hf : NFr w b') {z : Int} (hz : (Lit.int k z).wf = true) : NumsAt (w.setCell ⟨b', o, none⟩ (.int k z)) k b f n := by
  intro j hj
  obtain ⟨y, hy, hc⟩ := h j hj
  by_cases hb : b = b'
  · subst hb
    obtain ⟨cs, t, hB⟩ := hf
    have hB : Blk w b t cs := hB
    have h2 := (hB.set_ o (.int k z)).cell (f j)
    rw [hB.cell] at hc
    rw [Array.getElem?_setIfInBounds] at h2
    by_cases ho : o = f j
    · rw [if_pos ho] at h2
      have hl : f j < cs.size := (Array.getElem?_eq_some_iff.1 hc).1
      rw [if_pos (by omega)] at h2
      exact ⟨z, hz, h2⟩
    · rw [if_neg ho, hc] at h2
      exact ⟨y, hy, h2⟩
  · exact ⟨y, hy, (World.cell?_of_block (a := ⟨b, f j, none⟩) (Below.heap_setCell w ⟨b', o, none⟩ (.int k z) b hb)).trans hc⟩
theorem NumsAt.stay {w w' : World} {k : IntKind} {b : Nat} {f : Nat → Nat} {n : Nat} (h : NumsAt w k b f n) (e : w'.heap[b]? = w.heap[b]?) : NumsAt w' k b f n := fun j hj => by
  obtain ⟨y, hy, hc⟩ := h j hj
  exact ⟨y, hy, (World.cell?_of_block (a := ⟨b, f j, none⟩) e).trans hc⟩
theorem NFr.set {w : World} {k : Nat} (h : NFr w k) (a : Addr) (ha : a.spot = none) (u : Value) : NFr (w.setCell a u) k := by
  obtain ⟨b, o, s⟩ := a
  simp only at ha
  subst ha
  obtain ⟨cs, t, hB⟩ := h
  by_cases e : k = b
  · subst e
    exact ⟨_, t, Blk.set_ (show Blk w k t cs from hB) o u⟩
  · exact ⟨cs, t, (Below.heap_setCell w ⟨b, o, none⟩ u k e).trans hB⟩
/-- a patch's cells, and its operations' kinds, whichever -/
def RowW (w : World) (D : Nat → Prop) (r : List Value) (id : PidV) : Prop := ∃ A n c A' n' c', r = patC id A n c A' n' c' ∧ n' ≤ maxLen ∧ (0 < n' → ∃ b o, A' = some ⟨b, o, none⟩ ∧ D b ∧ NumsAt w .u8 b (fun j => o + j * 8) n')
/-- a row of such, its operations' blocks apart from it, and free to be written -/
def AllW (B : Nat) (w : World) (s : Value) (l : List PidV) : Prop := ∃ (rows : List (List Value)) (D : Nat → Prop), w.ownsRow 0 31 4 s l.length rows.flatten ∧ rows.length = l.length ∧ (∀ r ∈ rows, r.length = 4) ∧ (∀ (k : Nat) (r : List Value) (d : PidV), rows[k]? = some r → l[k]? = some d → RowW w D r d) ∧ ∀ k, D k → B ≤ k ∧ k < w.heap.size ∧ s.ownBlock ≠ some k ∧ NFr w k
theorem AllW.slice {B : Nat} {w : World} {s : Value} {l : List PidV} (h : AllW B w s l) : ∃ A c, s = .slice A l.length c ∧ l.length ≤ c := by
  obtain ⟨rows, D, h1, _⟩ := h
  obtain ⟨A, c, rfl, hc, _⟩ := Sl.of_own h1
  exact ⟨A, c, rfl, hc⟩
theorem AllW.ext {B : Nat} {w w' : World} {s : Value} {l : List PidV} (h : AllW B w s l) (hb : Below w.heap.size w w') : AllW B w' s l := by
  obtain ⟨rows, D, h1, h2, h3, h4, h5⟩ := h
  refine ⟨rows, D, own_ext h1 hb, h2, h3, fun k r d e1 e2 => ?_, fun k e => ⟨(h5 k e).1, Nat.lt_of_lt_of_le (h5 k e).2.1 hb.size, (h5 k e).2.2.1, (h5 k e).2.2.2.keep (hb.block k (h5 k e).2.1)⟩⟩
  obtain ⟨A, n, c, A', n', c', e, hn, ho⟩ := h4 k r d e1 e2
  refine ⟨A, n, c, A', n', c', e, hn, fun hp => ?_⟩
  obtain ⟨b, o, e', hD, hN⟩ := ho hp
  exact ⟨b, o, e', hD, hN.stay (hb.block b (h5 b hD).2.1)⟩
/-- the patch at a place: its cells -/
theorem AllW.at_ {B : Nat} {w : World} {A : Option Addr} {c : Nat} {l : List PidV} (h : AllW B w (.slice A l.length c) l) {i : Nat} (hi : i < l.length) : ∃ b d A1 n1 c1 A2 n2 c2, A = some ⟨b, 0, none⟩ ∧ b < w.heap.size ∧ l[i]? = some d ∧ w.rangeAt b (i * 4) (patC d A1 n1 c1 A2 n2 c2) ∧ n2 ≤ maxLen ∧
    (0 < n2 → ∃ b' o', A2 = some ⟨b', o', none⟩ ∧ B ≤ b' ∧ b' < w.heap.size ∧ b' ≠ b ∧ NFr w b' ∧ NumsAt w .u8 b' (fun j => o' + j * 8) n2) := by
  obtain ⟨rows, D, h1, h2, h3, h4, h5⟩ := h
  have hir : i < rows.length := by rw [h2]; exact hi
  obtain ⟨A1, n1, c1, A2, n2, c2, e, hn, ho⟩ := h4 i rows[i] l[i] (List.getElem?_eq_getElem hir) (List.getElem?_eq_getElem hi)
  have hlen := h1.1
  obtain ⟨g, rfl⟩ : ∃ g, A = some ⟨g, 0, none⟩ := by
    rcases h1.2 with ⟨h', h0⟩ | ⟨g', cap', cur, h', _⟩
    · omega
    · injection h' with h' _ _; exact ⟨g', h'⟩
  have hg := (h1.lt g rfl).2
  refine ⟨g, l[i], A1, n1, c1, A2, n2, c2, rfl, hg, List.getElem?_eq_getElem hi, ?_, hn, fun hp => ?_⟩
  · rw [← e]
    have e2 : rows.flatten = rows.flatMap id := by simp [List.flatMap_def]
    rw [e2] at h1
    intro j v hj
    have hj4 : j < 4 := by have := (List.getElem?_eq_some_iff.1 hj).1; rw [h3 _ (List.getElem_mem hir)] at this; exact this
    rw [h1.cellAt _ (by have : i * 4 + 4 ≤ l.length * 4 := by omega
                        omega), flatMap_get id rows (fun r hr => h3 r hr) i j hir hj4]
    exact hj
  · obtain ⟨b', o', e', hD, hN⟩ := ho hp
    obtain ⟨d1, d2, d3, d4⟩ := h5 b' hD
    exact ⟨b', o', e', d1, d2, fun c => d3 (by rw [c]; rfl), d4, hN⟩
/-- a kind is written -/
theorem AllW.set {B : Nat} {w : World} {b c : Nat} {l : List PidV} (h : AllW B w (.slice (some ⟨b, 0, none⟩) l.length c) l) {b' o : Nat} (hb : b' ≠ b) (hf : NFr w b') {z : Int} (hz : (Lit.int .u8 z).wf = true) : AllW B (w.setCell ⟨b', o, none⟩ (.int .u8 z)) (.slice (some ⟨b, 0, none⟩) l.length c) l := by
  obtain ⟨rows, D, h1, h2, h3, h4, h5⟩ := h
  refine ⟨rows, D, own_keepF h1 (fun g e => ?_), h2, h3, fun k r d e1 e2 => ?_, fun k e => ⟨(h5 k e).1, by simpa [World.setCell] using (h5 k e).2.1, (h5 k e).2.2.1, (h5 k e).2.2.2.set _ rfl _⟩⟩
  · obtain rfl : b = g := by simpa [Value.ownBlock] using e
    exact Below.heap_setCell w ⟨b', o, none⟩ _ b (fun c => hb c.symm)
  · obtain ⟨A, n, c, A', n', c', e, hn, ho⟩ := h4 k r d e1 e2
    refine ⟨A, n, c, A', n', c', e, hn, fun hp => ?_⟩
    obtain ⟨b2, o2, e', hD, hN⟩ := ho hp
    exact ⟨b2, o2, e', hD, hN.set hf hz⟩
end Go.Proofs.YtihggkmjalofiaaGreatDoor
