/- Texts of general use, one behind another. -/
import Derived.Test.YtihggkmjalofiaaGreatDoorPools
import Derived.Test.YtihggkmjalofiaaGreatDoorGen
import Derived.Maps.Keyed
import Derived.Test.YtihggkmjalofiaaGreatDoorMasks
import Derived.Test.YtihggkmjalofiaaGreatDoorIdxw

/- The transitive closure, row by row, whichever the order: plain law; no program in sight. -/
namespace Go.Proofs.YtihggkmjalofiaaGreatDoor
open Go.RowKit

/-- a way from one thing to another one, whatever lies between in K -/
inductive Via (E : Nat → Nat → Prop) (K : Nat → Prop) : Nat → Nat → Prop
  | edge {a b : Nat} : E a b → Via E K a b
  | step {a c b : Nat} : E a c → K c → Via E K c b → Via E K a b
section
variable {E : Nat → Nat → Prop} {K K' : Nat → Prop} {a b c k : Nat}
theorem Via.mono (h : Via E K a b) (hK : ∀ x, K x → K' x) : Via E K' a b := by
  induction h with
  | edge e => exact .edge e
  | step e hc _ ih => exact .step e (hK _ hc) ih
theorem Via.first (h : Via E K a b) : ∃ c, E a c := by
  cases h with
  | edge e => exact ⟨_, e⟩
  | step e _ _ => exact ⟨_, e⟩
theorem Via.trans (h : Via E K a c) (hc : K c) (h2 : Via E K c b) : Via E K a b := by
  induction h with
  | edge e => exact .step e hc h2
  | step e hd _ ih => exact .step e hd (ih hc h2)
theorem Via.split (h : Via E (fun x => K x ∨ x = k) a b) : Via E K a b ∨ (Via E K a k ∧ Via E K k b) := by
  induction h with
  | edge e => exact .inl (.edge e)
  | step e hc _ ih =>
    rcases hc with hc | rfl
    · rcases ih with ih | ⟨i1, i2⟩
      · exact .inl (.step e hc ih)
      · exact .inr ⟨.step e hc i1, i2⟩
    · rcases ih with ih | ⟨_, i2⟩
      · exact .inr ⟨.edge e, ih⟩
      · exact .inr ⟨.edge e, i2⟩
/-- whatever lies between leads on -/
theorem Via.inner (h : Via E (fun _ => True) a b) (hK : ∀ x y, E x y → K x) : Via E K a b := by
  induction h with
  | edge e => exact .edge e
  | step e _ h2 ih =>
    obtain ⟨y, hy⟩ := h2.first
    exact .step e (hK _ _ hy) ih
theorem Via.congr {E' : Nat → Nat → Prop} (hE : ∀ x y, E x y ↔ E' x y) : Via E K a b ↔ Via E' K a b := by
  constructor
  · intro h
    induction h with
    | edge e => exact .edge ((hE _ _).1 e)
    | step e hc _ ih => exact .step ((hE _ _).1 e) hc ih
  · intro h
    induction h with
    | edge e => exact .edge ((hE _ _).2 e)
    | step e hc _ ih => exact .step ((hE _ _).2 e) hc ih
end
/-- row i takes in row k, if it has k -/
def orRow (R : Nat → Nat → Bool) (i k : Nat) : Nat → Nat → Bool := fun a b => if a = i ∧ R i k = true then R i b || R k b else R a b
/-- all rows of a list do so -/
def sweep (l : List Nat) (R : Nat → Nat → Bool) (k : Nat) : Nat → Nat → Bool := fun a b => if a ∈ l ∧ R a k = true then R a b || R k b else R a b
theorem sweep_row (l : List Nat) (R : Nat → Nat → Bool) (k b : Nat) : sweep l R k k b = R k b := by
  unfold sweep
  split
  · rw [Bool.or_self]
  · rfl
theorem sweep_nil (R : Nat → Nat → Bool) (k : Nat) : sweep [] R k = R := by
  funext a b
  unfold sweep
  rw [if_neg (by simp)]
theorem sweep_snoc (l : List Nat) (R : Nat → Nat → Bool) (k i : Nat) : sweep (l ++ [i]) R k = orRow (sweep l R k) i k := by
  funext a b
  unfold orRow
  rw [sweep_row]
  unfold sweep
  by_cases ha : a = i
  · subst ha
    by_cases hk : R a k = true
    · by_cases hl : a ∈ l <;> simp [hk, hl]
    · by_cases hl : a ∈ l <;> simp [hk, hl]
  · by_cases hl : a ∈ l <;> simp [ha, hl]
/-- all sweeps, one for each of a list -/
def cloK (from_ l : List Nat) (R : Nat → Nat → Bool) : Nat → Nat → Bool := l.foldl (fun R k => sweep from_ R k) R
def clo (from_ : List Nat) (R : Nat → Nat → Bool) : Nat → Nat → Bool := cloK from_ from_ R
theorem cloK_snoc (from_ l : List Nat) (R : Nat → Nat → Bool) (k : Nat) : cloK from_ (l ++ [k]) R = sweep from_ (cloK from_ l R) k := by unfold cloK; rw [List.foldl_append]; rfl
theorem cloK_inv {from_ : List Nat} {R : Nat → Nat → Bool} (hf : ∀ a b, R a b = true → a ∈ from_) (l : List Nat) :
    (∀ a b, cloK from_ l R a b = true → Via (fun x y => R x y = true) (fun _ => True) a b) ∧ (∀ a b, Via (fun x y => R x y = true) (fun x => x ∈ l) a b → cloK from_ l R a b = true) := by
  refine snoc_ind (P := fun l => (∀ a b, cloK from_ l R a b = true → Via (fun x y => R x y = true) (fun _ => True) a b) ∧ (∀ a b, Via (fun x y => R x y = true) (fun x => x ∈ l) a b → cloK from_ l R a b = true)) ⟨fun a b h => .edge h, fun a b h => ?_⟩ (fun l k ih => ?_) l
  · cases h with
    | edge e => exact e
    | step _ hc _ => cases hc
  · obtain ⟨i1, i2⟩ := ih
    rw [cloK_snoc]
    constructor
    · intro a b h
      unfold sweep at h
      split at h
      · rename_i hc
        rw [Bool.or_eq_true] at h
        rcases h with h | h
        · exact i1 a b h
        · exact (i1 a k hc.2).trans trivial (i1 k b h)
      · exact i1 a b h
    · intro a b h
      have h' : Via (fun x y => R x y = true) (fun x => x ∈ l ∨ x = k) a b := h.mono fun x hx => by simpa using hx
      unfold sweep
      rcases h'.split with h1 | ⟨h1, h2⟩
      · have := i2 a b h1
        split
        · rw [this]; rfl
        · exact this
      · obtain ⟨c, hc⟩ := h1.first
        rw [if_pos ⟨hf a c hc, i2 a k h1⟩, i2 k b h2, Bool.or_true]
/-- it is the closure, whichever the order -/
theorem clo_iff {from_ : List Nat} {R : Nat → Nat → Bool} (hf : ∀ a b, R a b = true → a ∈ from_) (a b : Nat) : clo from_ R a b = true ↔ Via (fun x y => R x y = true) (fun _ => True) a b := by
  obtain ⟨h1, h2⟩ := cloK_inv hf from_
  exact ⟨h1 a b, fun h => h2 a b (h.inner fun x y e => hf x y e)⟩
end Go.Proofs.YtihggkmjalofiaaGreatDoor

/- A map's block keyed by whole numbers: lookups and stores. No program in sight but as a variable. -/
namespace Go.Proofs.YtihggkmjalofiaaGreatDoor
open Go.RowKit Go.MapKept
open Go.ChangeMaps (setBlock modify_eq_set)

section
variable {P : Program} {k : TypeId} {w w' : World} {b : Nat} {l : List (Value × Value)}
/-- 'm[key]': the run, in any world with this block -/
theorem MapIs.lookK {t e : TypeId} (h : MapIs P k w b l) (K : Go.Maps.Keyed P k) (ht : P.underlying t = some (.map k e)) {z : Value} (hz : ∀ u : World, (zeroValue e).run P u = .ok z u) {key : Value} {kl : Lit} (hkey : keyOf P k key = some kl) :
    ∃ v, GetL l key z v ∧ ∀ w', w'.heap[b]? = w.heap[b]? → (Instr.lookup t (.map (some b)) key false).run P w' = .ok v w' := by
  obtain ⟨es, clock, hb, hs, hk, rfl⟩ := h
  rcases K.find w hkey es.toList hk with ⟨h1, h2⟩ | ⟨j, e0, h1, h2, h3⟩
  · refine ⟨z, .inl ⟨fun p hp => ?_, rfl⟩, fun w' hw => ?_⟩
    · obtain ⟨x, hx, rfl⟩ := List.mem_map.1 hp; exact h2 x hx
    · have hb' := hw.trans hb
      rcases K.find w' hkey es.toList hk with ⟨g1, g2⟩ | ⟨j, e0, g1, g2, g3⟩
      · simp [Instr.lookup, run_underlying ht, MapKept.run_getObj_map hb', K.check w' _ hkey, g1, hz, Result.andThen]
      · exact absurd g3 (h2 e0 (List.mem_of_getElem? g2))
  · refine ⟨e0.val, .inr (List.mem_map.2 ⟨e0, List.mem_of_getElem? h2, by rw [pairOf, h3]⟩), fun w' hw => ?_⟩
    have hb' := hw.trans hb
    rcases K.find w' hkey es.toList hk with ⟨g1, g2⟩ | ⟨j', e1, g1, g2, g3⟩
    · exact absurd h3 (g2 e0 (List.mem_of_getElem? h2))
    · have hd : es.toList.Pairwise (fun x y => x.key ≠ y.key) := ((stamped_iff es clock).1 hs).2.2
      have he : e1 = e0 := by
        obtain ⟨hj, rfl⟩ := List.getElem?_eq_some_iff.1 h2
        obtain ⟨hj', rfl⟩ := List.getElem?_eq_some_iff.1 g2
        have hp := List.pairwise_iff_getElem.1 hd
        rcases Nat.lt_trichotomy j j' with c | c | c
        · exact absurd (h3.trans g3.symm) (hp j j' hj hj' c)
        · subst c; rfl
        · exact absurd (g3.trans h3.symm) (hp j' j hj' hj c)
      subst he
      simp [Instr.lookup, run_underlying ht, MapKept.run_getObj_map hb', K.check w' _ hkey, g1, Result.andThen]
/-- 'm[key] = val' -/
theorem MapIs.putK {t e : TypeId} (h : MapIs P k w b l) (K : Go.Maps.Keyed P k) (ht : P.underlying t = some (.map k e)) {key val : Value} {kl : Lit} (hkey : keyOf P k key = some kl) :
    ∃ o l', (Instr.mapUpdate t (.map (some b)) key val).run P w = .ok () (setBlock w b o) ∧ PutL l key val l' ∧ MapIs P k (setBlock w b o) b l' := by
  have hlt := h.lt
  obtain ⟨es, clock, hb, hs, hk, rfl⟩ := h
  rcases K.find w hkey es.toList hk with ⟨h1, h2⟩ | ⟨j, e0, h1, h2, h3⟩
  · refine ⟨.map (es.push ⟨key, val, clock⟩) (clock + 1), _, ?_, .inl ⟨fun p hp => ?_, rfl⟩, es.push ⟨key, val, clock⟩, clock + 1, setBlock_heap hlt, stamped_push hs h2, fun x hx => ?_, by simp [pairOf]⟩
    · simp [Instr.mapUpdate, run_underlying ht, MapKept.run_getObj_map hb, K.check w false hkey, h1, MapKept.run_setObj_map _ hb, Result.andThen, setBlock]
    · obtain ⟨x, hx, rfl⟩ := List.mem_map.1 hp; exact h2 x hx
    · simp only [Array.toList_push, List.mem_append, List.mem_singleton] at hx
      rcases hx with hx | rfl
      · exact hk x hx
      · exact ⟨_, hkey⟩
  · have hj : es[j]? = some e0 := by simpa using h2
    have hkeyf : ∀ e', es[j]? = some e' → ({ e' with key := key, val := val } : MapEntry).key = e'.key := fun e' he' => by rw [hj] at he'; cases he'; exact h3.symm
    refine ⟨.map (es.modify j (fun e' => { e' with key := key, val := val })) clock, _, ?_, .inr ⟨j, e0.val, by rw [List.getElem?_map, h2]; simp [pairOf, h3], rfl⟩, es.modify j (fun e' => { e' with key := key, val := val }), clock, setBlock_heap hlt, stamped_modify hs _ _ (fun _ _ => rfl) (fun e' _ he' => hkeyf e' he'), fun x hx => ?_, ?_⟩
    · simp [Instr.mapUpdate, run_underlying ht, MapKept.run_getObj_map hb, K.check w false hkey, h1, hj, h3, K.stays w hkey, MapKept.run_setObj_map _ hb, Result.andThen, setBlock]
    · rcases MapFrom.mem_modify hx with hx | ⟨e', _, rfl⟩
      · exact hk x hx
      · exact ⟨_, hkey⟩
    · rw [Array.toList_modify, modify_eq_set _ _ _ _ h2, List.map_set]; rfl
end
end Go.Proofs.YtihggkmjalofiaaGreatDoor

/- Which things come ahead of which, as it lies: a map of sets; whether steps lead from one to another one, how many there are: walked. -/
namespace Go.Proofs.YtihggkmjalofiaaGreatDoor
open Go.RowKit
open Go.MapKept

theorem kLawN : Go.Maps.Keyed Tryz.prog 3 := Go.Maps.int_keyed Tryz.underlying3
theorem kMapM : Tryz.prog.underlying 394 = some (.map 3 398) := by kernel_rfl
theorem kZeroM (u : World) : (zeroValue 398).run Tryz.prog u = .ok (.pointer none) u := by kernel_rfl
theorem kKeyN {i : Int} (h : -9223372036854775808 ≤ i ∧ i ≤ 9223372036854775807) : keyOf Tryz.prog 3 (.int .i64 i) = some (.int .i64 i) :=
  Go.Maps.keyOf_int_mk Tryz.underlying3 (by simp [Lit.wf, IntKind.min, IntKind.max, IntKind.signed, IntKind.bits]; omega)
/-- a row: the thing, its set's block, the words' block, the words -/
structure Row7 where
  i : Nat
  g : Nat
  gw : Nat
  ws : List Nat
def entR (T : List Row7) : List (Value × Value) := T.map fun r => (.int .i64 (r.i : Int), .pointer (some ⟨r.g, 0, none⟩))
/-- the rows as they lie -/
structure RowsAt7 (w : World) (gm n : Nat) (T : List Row7) : Prop where
  map : MapIs Tryz.prog 3 w gm (entR T)
  row : ∀ r ∈ T, MaskAt w r.g r.gw n r.ws
  cl : ∀ r ∈ T, CleanW n r.ws
  lt : ∀ r ∈ T, r.i < n
  ap : T.Pairwise fun a b => a.i ≠ b.i ∧ a.g ≠ b.g ∧ a.gw ≠ b.gw
def relT (T : List Row7) (i j : Nat) : Bool := T.any fun r => (r.i == i) && bitAt r.ws j
section
variable {w w' : World} {gm n : Nat} {T : List Row7}
theorem RowsAt7.ext (h : RowsAt7 w gm n T) (hb : Below w.heap.size w w') : RowsAt7 w' gm n T :=
  ⟨h.map.ext hb, fun r hr => (h.row r hr).ext hb, h.cl, h.lt, h.ap⟩
theorem RowsAt7.one (h : RowsAt7 w gm n T) {r s : Row7} (hr : r ∈ T) (hs : s ∈ T) (e : r.i = s.i) : r = s := by
  obtain ⟨i, hi, rfl⟩ := List.getElem_of_mem hr
  obtain ⟨j, hj, rfl⟩ := List.getElem_of_mem hs
  have hp := List.pairwise_iff_getElem.1 h.ap
  rcases Nat.lt_trichotomy i j with c | c | c
  · exact absurd e (hp i j hi hj c).1
  · subst c; rfl
  · exact absurd e.symm (hp j i hj hi c).1
theorem RowsAt7.rel (h : RowsAt7 w gm n T) {r : Row7} (hr : r ∈ T) (j : Nat) : relT T r.i j = bitAt r.ws j := by
  unfold relT
  cases hb : bitAt r.ws j
  · rw [List.any_eq_false]
    intro s hs
    by_cases e : s.i = r.i
    · obtain rfl := h.one hs hr e
      rw [hb]; simp
    · simp [e]
  · rw [List.any_eq_true]
    exact ⟨r, hr, by simp [hb]⟩
theorem relT_none {i j : Nat} (h : ∀ r ∈ T, r.i ≠ i) : relT T i j = false := by
  unfold relT
  rw [List.any_eq_false]
  intro r hr
  simp [h r hr]
theorem RowsAt7.look (h : RowsAt7 w gm n T) (i : Int) (hi : -9223372036854775808 ≤ i ∧ i ≤ 9223372036854775807) :
    ∃ v, (∀ w' : World, w'.heap[gm]? = w.heap[gm]? → (Instr.lookup 394 (.map (some gm)) (.int .i64 i) false).run Tryz.prog w' = .ok v w') ∧
      ((v = .pointer none ∧ ∀ r ∈ T, (r.i : Int) ≠ i) ∨ ∃ r ∈ T, (r.i : Int) = i ∧ v = .pointer (some ⟨r.g, 0, none⟩)) := by
  obtain ⟨v, hg, hl⟩ := h.map.lookK kLawN kMapM kZeroM (kKeyN hi)
  refine ⟨v, hl, ?_⟩
  rcases hg with ⟨h1, rfl⟩ | h1
  · refine .inl ⟨rfl, fun r hr e => h1 (.int .i64 (r.i : Int), .pointer (some ⟨r.g, 0, none⟩)) (List.mem_map.2 ⟨r, hr, rfl⟩) (by rw [e])⟩
  · obtain ⟨r, hr, e⟩ := List.mem_map.1 h1
    simp only [Prod.mk.injEq, Value.int.injEq, true_and] at e
    exact .inr ⟨r, hr, e.1, e.2.symm⟩
end
/-- a relation as it lies -/
def RelAt (w : World) (g n : Nat) (R : Nat → Nat → Bool) : Prop :=
  n ≤ 65536 ∧ ∃ gm T, Blk w g 396 #[.int .i64 (n : Int), .map (some gm)] ∧ RowsAt7 w gm n T ∧ ∀ i j, relT T i j = R i j
def hasR (R : Nat → Nat → Bool) (i j : Int) : Bool := decide (0 ≤ i) && decide (0 ≤ j) && R i.toNat j.toNat
theorem hasR_nat (R : Nat → Nat → Bool) (i j : Nat) : hasR R i j = R i j := by simp [hasR]
section
variable {w w' : World} {g n : Nat} {R : Nat → Nat → Bool}
theorem RelAt.ext (h : RelAt w g n R) (hb : Below w.heap.size w w') : RelAt w' g n R := by
  obtain ⟨h0, gm, T, h1, h2, h3⟩ := h
  exact ⟨h0, gm, T, h1.ext hb, h2.ext hb, h3⟩
theorem RelAt.lt (h : RelAt w g n R) : g < w.heap.size := by
  obtain ⟨h0, gm, T, h1, h2, h3⟩ := h
  exact h1.lt
/-- only things are in it -/
theorem RelAt.in (h : RelAt w g n R) {i j : Nat} (hr : R i j = true) : i < n ∧ j < n := by
  obtain ⟨h0, gm, T, h1, h2, h3⟩ := h
  rw [← h3] at hr
  unfold relT at hr
  obtain ⟨r, hr1, hr2⟩ := List.any_eq_true.1 hr
  simp only [Bool.and_eq_true, beq_iff_eq] at hr2
  refine ⟨hr2.1 ▸ h2.lt r hr1, ?_⟩
  rcases Nat.lt_or_ge j n with h4 | h4
  · exact h4
  · rw [h2.cl r hr1 j h4] at hr2; cases hr2.2
theorem hasR_none {T : List Row7} {R : Nat → Nat → Bool} (h3 : ∀ i j, relT T i j = R i j) {i : Int} (j : Int) (h : ∀ r ∈ T, (r.i : Int) ≠ i) : hasR R i j = false := by
  unfold hasR
  by_cases h0 : 0 ≤ i
  · rw [← h3, relT_none (fun r hr e => h r hr (by omega)), Bool.and_false]
  · rw [decide_eq_false h0]; rfl
theorem hasR_row {T : List Row7} {gm : Nat} (h2 : RowsAt7 w gm n T) (h3 : ∀ i j, relT T i j = R i j) {r : Row7} (hr : r ∈ T) {i : Int} (e : (r.i : Int) = i) (j : Int) : hasM n r.ws j = hasR R i j := by
  subst e
  unfold hasM hasR
  rw [← h3, Int.toNat_natCast, h2.rel hr, decide_eq_true (show (0 : Int) ≤ (r.i : Int) by omega), Bool.true_and]
  by_cases h0 : 0 ≤ j
  · rw [decide_eq_true h0, Bool.true_and, Bool.true_and]
    by_cases h1 : j < (n : Int)
    · rw [decide_eq_true h1, Bool.true_and]
    · rw [h2.cl r hr j.toNat (by omega), Bool.and_false]
  · rw [decide_eq_false h0]; rfl
end
theorem wpList_lookG {P : Program} {ops : Array Oper} {rest : List Oper} {a : Act} {w : World} {Q : Exit → Act → World → Prop} {d : Option Tmp} {ty t : TypeId} {pos : String} {after : Array Edge} {gd : Option (Nat × Bool)} {m x : Operand} {mv kv v : Value} {ok : Bool}
    (hw : Region.wanted (⟨d, .lookup t m x ok, ty, pos, after, gd⟩ : Oper) (yielded ops a.tmps) = true) (hm : a.eval m = mv) (hx : a.eval x = kv) (hr : (Instr.lookup t mv kv ok).run P w = .ok v w)
    (h : wpList P ops Q rest (a.put d v) w) : wpList P ops Q (⟨d, .lookup t m x ok, ty, pos, after, gd⟩ :: rest) a w :=
  wpList_wanted hw fun _ hK => by
    unfold Oper.wp execOp
    simp only [hm, hx, Sem.run_bind, hr, Result.andThen_ok, Sem.run_pure]
    exact hK _ _ h
set_option maxRecDepth 100000 in
set_option maxHeartbeats 1000000 in
theorem has8_any {w : World} {g n : Nat} {R : Nat → Nat → Bool} (h : RelAt w g n R) (i j : Int) (hi : -9223372036854775808 ≤ i ∧ i ≤ 9223372036854775807) :
    Calls Tryz.prog 366 #[.pointer (some ⟨g, 0, none⟩), .int .i64 i, .int .i64 j] w (Ret w (.bool (hasR R i j))) := by
  obtain ⟨h0, gm, T, hB, hT, h3⟩ := h
  have y1 : w.cell? ⟨g, 1, none⟩ = some (.map (some gm)) := hB.cell 1
  obtain ⟨v, hl, hv⟩ := hT.look i hi
  have HL := Lib.hid (hl w rfl)
  clear hl
  rcases hv with ⟨rfl, hno⟩ | ⟨r, hr, e, rfl⟩
  · have N := Lib.hid (hasR_none (R := R) h3 j hno)
    clear hno h3 hT hB
    go_enter Tryz.func366, Tryz.ntmps366
    go_wp2_with (refine wpList_lookG (by rfl) (by rfl) (by rfl) HL.out ?_)
    refine (has7_nil j w).mono ?_
    rintro e w1 ⟨rfl, rfl⟩
    go_wp2
    go_ret
    exact ⟨ret_bool N.out.symm, rfl⟩
  · have N := Lib.hid (hasR_row (R := R) hT h3 hr e j)
    have HH := Lib.hid (has7_any (hT.row r hr) j)
    clear e hr h3 hT hB
    go_enter Tryz.func366, Tryz.ntmps366
    go_wp2_with (refine wpList_lookG (by rfl) (by rfl) (by rfl) HL.out ?_)
    refine HH.out.mono ?_
    rintro e w1 ⟨rfl, rfl⟩
    go_wp2
    go_ret
    exact ⟨ret_bool N.out, rfl⟩
set_option maxRecDepth 100000 in
set_option maxHeartbeats 1000000 in
theorem len8_any {w : World} {g n : Nat} {R : Nat → Nat → Bool} (h : RelAt w g n R) : Calls Tryz.prog 312 #[.pointer (some ⟨g, 0, none⟩)] w (Ret w (.int .i64 (n : Int))) := by
  obtain ⟨h0, gm, T, hB, hT, h3⟩ := h
  have y0 : w.cell? ⟨g, 0, none⟩ = some (.int .i64 (n : Int)) := hB.cell 0
  clear hB hT h3
  go_enter Tryz.func312, Tryz.ntmps312
  go_wp2
  go_ret
  exact ⟨rfl, rfl⟩
def befR (R : Nat → Nat → Bool) (i j : Nat) : Bool := R i j && !R j i
set_option maxRecDepth 100000 in
set_option maxHeartbeats 1000000 in
theorem before8_any {w : World} {g n : Nat} {R : Nat → Nat → Bool} (h : RelAt w g n R) (i j : Nat) (hi : i ≤ 65536) (hj : j ≤ 65536) :
    Calls Tryz.prog 364 #[.pointer (some ⟨g, 0, none⟩), .int .i64 (i : Int), .int .i64 (j : Int)] w (Ret w (.bool (befR R i j))) := by
  have H1 := Lib.hid (has8_any h i j (by omega))
  have H2 := Lib.hid (has8_any h j i (by omega))
  rw [hasR_nat] at H1 H2
  unfold befR
  clear h
  cases h1 : R i j
  · rw [h1] at H1
    go_enter Tryz.func364, Tryz.ntmps364
    go_wp2_with fail
    refine H1.out.mono ?_
    rintro e w1 ⟨rfl, rfl⟩
    go_wp2
    go_ret
    exact ⟨rfl, rfl⟩
  · rw [h1] at H1
    cases h2 : R j i
    · rw [h2] at H2
      go_enter Tryz.func364, Tryz.ntmps364
      go_wp2_with fail
      refine H1.out.mono ?_
      rintro e w1 ⟨rfl, rfl⟩
      go_wp2_with fail
      refine H2.out.mono ?_
      rintro e w1 ⟨rfl, rfl⟩
      go_wp2
      go_ret
      exact ⟨rfl, rfl⟩
    · rw [h2] at H2
      go_enter Tryz.func364, Tryz.ntmps364
      go_wp2_with fail
      refine H1.out.mono ?_
      rintro e w1 ⟨rfl, rfl⟩
      go_wp2_with fail
      refine H2.out.mono ?_
      rintro e w1 ⟨rfl, rfl⟩
      go_wp2
      go_ret
      exact ⟨rfl, rfl⟩
end Go.Proofs.YtihggkmjalofiaaGreatDoor

/- The least thing that is alike one: walked. -/
namespace Go.Proofs.YtihggkmjalofiaaGreatDoor
open Go.RowKit
open Go.MapKept

/-- the least thing that is alike one -/
def groupR (R : Nat → Nat → Bool) (i : Nat) : Nat := ((List.range i).find? fun j => R i j && R j i).getD i
theorem find_range {p : Nat → Bool} {i k : Nat} (hk : k < i) (hp : p k = true) (hn : ∀ j, j < k → p j = false) : (List.range i).find? p = some k := by
  rw [List.find?_eq_some_iff_append]
  refine ⟨hp, List.range k, (List.range' (k + 1) (i - k - 1)), ?_, fun a ha => by rw [hn a (List.mem_range.1 ha)]; rfl⟩
  rw [List.range_eq_range', List.range_eq_range']
  have e : i = k + (1 + (i - k - 1)) := by omega
  rw [e, List.range'_append_1.symm, List.range'_append_1.symm]
  simp
theorem groupR_at {R : Nat → Nat → Bool} {i k : Nat} (hk : k < i) (h1 : R i k = true) (h2 : R k i = true) (hn : ∀ j, j < k → (R i j && R j i) = false) : groupR R i = k := by
  unfold groupR
  rw [find_range hk (by rw [h1, h2]; rfl) hn]; rfl
theorem groupR_none {R : Nat → Nat → Bool} {i : Nat} (hn : ∀ j, j < i → (R i j && R j i) = false) : groupR R i = i := by
  unfold groupR
  rw [List.find?_eq_none.2 fun j hj => by rw [hn j (List.mem_range.1 hj)]; simp]; rfl
theorem groupR_le (R : Nat → Nat → Bool) (i : Nat) : groupR R i ≤ i := by
  unfold groupR
  cases h : (List.range i).find? fun j => R i j && R j i with
  | none => exact Nat.le_refl _
  | some k => exact Nat.le_of_lt (List.mem_range.1 (List.mem_of_find?_eq_some h))
set_option maxRecDepth 100000 in
set_option maxHeartbeats 1000000 in
theorem fits8_any (i n : Int) (w : World) : Calls Tryz.prog 306 #[.int .i64 i, .int .i64 n] w (Ret w (.bool (decide (0 ≤ i) && decide (i < n)))) := by
  by_cases h0 : 0 ≤ i
  · rw [decide_eq_true h0, Bool.true_and]
    by_cases h1 : i < n
    · have e1 := decide_eq_true h1
      go_enter Tryz.func306, Tryz.ntmps306
      go_wp2
      go_ret
      exact ⟨ret_bool e1.symm, rfl⟩
    · have e1 := decide_eq_false h1
      go_enter Tryz.func306, Tryz.ntmps306
      go_wp2
      go_ret
      exact ⟨rfl, rfl⟩
  · rw [decide_eq_false h0, Bool.false_and]
    go_enter Tryz.func306, Tryz.ntmps306
    go_wp2
    go_ret
    exact ⟨rfl, rfl⟩
set_option maxRecDepth 100000 in
set_option maxHeartbeats 1000000 in
theorem next7_nil (i : Int) (w : World) : Calls Tryz.prog 365 #[.pointer none, .int .i64 i] w (Ret w (.int .i64 (-1))) := by
  have h0 : (0 : Int) ≤ max i 0 := by omega
  go_enter Tryz.func365, Tryz.ntmps365
  go_wp2_with fail
  refine (room7_nil w).mono ?_
  rintro e w1 ⟨rfl, rfl⟩
  go_wp2
  go_ret
  exact ⟨rfl, rfl⟩
set_option maxRecDepth 100000 in
set_option maxHeartbeats 2000000 in
theorem group8_any {w : World} {g n : Nat} {R : Nat → Nat → Bool} (h : RelAt w g n R) (i : Nat) (hi : i < n) :
    Calls Tryz.prog 313 #[.pointer (some ⟨g, 0, none⟩), .int .i64 (i : Int)] w (Ret w (.int .i64 ((groupR R i : Nat) : Int))) := by
  have HH := Lib.hid (fun (a b : Nat) (ha : a ≤ 65536) => has8_any h a b (by omega))
  have HLen := Lib.hid (len8_any h)
  have HF := Lib.hid (fun u => fits8_any i n u)
  rw [decide_eq_true (show (0 : Int) ≤ (i : Int) by omega), decide_eq_true (show (i : Int) < (n : Int) by omega), Bool.and_self] at HF
  obtain ⟨h0, gm, T, hB, hT, h3⟩ := h
  have y1 : w.cell? ⟨g, 1, none⟩ = some (.map (some gm)) := hB.cell 1
  obtain ⟨v, hl, hv⟩ := hT.look i (by omega)
  have HL := Lib.hid (hl w rfl)
  clear hl
  rcases hv with ⟨rfl, hno⟩ | ⟨r, hr, e, rfl⟩
  · have N : Hid (groupR R i = i) := groupR_none fun j _ => by
      have := hasR_none (R := R) h3 (i := i) j hno
      rw [hasR_nat] at this
      rw [this]; rfl
    clear hno h3 hT hB
    go_enter Tryz.func313, Tryz.ntmps313
    go_wp2_with fail
    refine HLen.out.mono ?_
    rintro e w1 ⟨rfl, rfl⟩
    go_wp2_with fail
    refine (HF.out _).mono ?_
    rintro e w1 ⟨rfl, rfl⟩
    go_wp2_with (refine wpList_lookG (by rfl) (by rfl) (by rfl) HL.out ?_)
    refine (next7_nil 0 w).mono ?_
    rintro e w1 ⟨rfl, rfl⟩
    go_wp2_with fail
    go_loop [5] (fun v => v = .int .i64 (-1)) (fun _ => 0)
    case atStart => rfl
    case round =>
      subst hrel
      go_wp2
      go_ret
      exact ⟨by rw [N.out]; rfl, rfl⟩
  · have HN := Lib.hid (fun (a : Int) (f : Nat) (hf : max a 0 = (f : Int)) => next7_any (hT.row r hr) (hT.cl r hr) a f hf)
    have RB : Hid (∀ j, R i j = bitAt r.ws j) := fun j => by
      have := hT.rel hr j
      rw [h3] at this
      rw [← this]
      congr 1
      omega
    clear e h3 hT hB hr
    generalize r.ws = ws at *
    go_enter Tryz.func313, Tryz.ntmps313
    go_wp2_with fail
    refine HLen.out.mono ?_
    rintro e w1 ⟨rfl, rfl⟩
    go_wp2_with fail
    refine (HF.out _).mono ?_
    rintro e w1 ⟨rfl, rfl⟩
    go_wp2_with (refine wpList_lookG (by rfl) (by rfl) (by rfl) HL.out ?_)
    refine (HN.out 0 0 (by omega)).mono ?_
    rintro e w1 ⟨q, rfl, rfl, hq⟩
    have Q0 := Lib.hid hq
    clear hq
    go_wp2_with fail
    go_loop [5] (fun v => ∃ (f : Nat) (q : Int), v = .int .i64 q ∧ Hid (NextP n ws f q) ∧ Hid (∀ j, j < f → j < i → (R i j && R j i) = false)) (fun v => if intOf v < 0 then 0 else (n + 1 - intOf v).toNat)
    case atStart => exact ⟨0, q, rfl, Q0.out, fun j h => by omega⟩
    case round =>
      clear Q0
      obtain ⟨f, q, rfl, Q, D⟩ := hrel
      rcases Q.out with ⟨rfl, hno⟩ | ⟨k, rfl, hfk, hkn, hb, hno⟩
      · have N : Hid (groupR R i = i) := groupR_none fun j hj => by
          rcases Nat.lt_or_ge j f with h1 | h1
          · exact D.out j h1 hj
          · rw [RB.out, hno j h1 (by omega)]; rfl
        clear hno Q D
        go_wp2
        go_ret
        exact ⟨by rw [N.out]; rfl, rfl⟩
      · have hk0 : (0 : Int) ≤ (k : Int) := by omega
        by_cases hki : k < i
        · have hki' : (k : Int) < (i : Int) := by omega
          have HK := Lib.hid (HH.out k i (by omega))
          rw [hasR_nat] at HK
          cases hr : R k i
          · rw [hr] at HK
            have D2 : Hid (∀ j, j < k + 1 → j < i → (R i j && R j i) = false) := fun j h1 h2 => by
              rcases Nat.lt_or_ge j f with h4 | h4
              · exact D.out j h4 h2
              · rcases Nat.lt_or_ge j k with h5 | h5
                · rw [RB.out, hno j h4 h5]; rfl
                · obtain rfl : j = k := by omega
                  rw [hr, Bool.and_false]
            have HN2 := Lib.hid (HN.out ((k : Int) + 1) (k + 1) (by omega))
            clear hno Q D hb hr
            go_wp2_with fail
            refine HK.out.mono ?_
            rintro e w1 ⟨rfl, rfl⟩
            go_wp2_with (refine wpList_lookG (by rfl) (by rfl) (by rfl) HL.out ?_)
            refine HN2.out.mono ?_
            rintro e w1 ⟨q, rfl, rfl, hq⟩
            have Q := Lib.hid hq
            have hm : Hid ((if q < 0 then 0 else ((n : Int) + 1 - q).toNat) < (if (k : Int) < 0 then 0 else ((n : Int) + 1 - (k : Int)).toNat)) := by
              rcases hq with ⟨rfl, _⟩ | ⟨m, rfl, h1, h2, _, _⟩
              · rw [Hid, if_pos (by omega), if_neg (by omega)]; omega
              · rw [Hid, if_neg (by omega), if_neg (by omega)]; omega
            clear hq
            go_wp2_with fail
            go_round
            case rel => exact ⟨k + 1, q, rfl, Q.out, D2.out⟩
            case measure => exact hm.out
          · rw [hr] at HK
            have N : Hid (groupR R i = k) := groupR_at hki (by rw [RB.out]; exact hb) hr fun j hj => by
              rcases Nat.lt_or_ge j f with h4 | h4
              · exact D.out j h4 (by omega)
              · rw [RB.out, hno j h4 hj]; rfl
            clear hno Q D hb hr
            go_wp2_with fail
            refine HK.out.mono ?_
            rintro e w1 ⟨rfl, rfl⟩
            go_wp2
            go_ret
            exact ⟨by rw [N.out]; rfl, rfl⟩
        · have hki' : ¬ (k : Int) < (i : Int) := by omega
          have N : Hid (groupR R i = i) := groupR_none fun j hj => by
            rcases Nat.lt_or_ge j f with h1 | h1
            · exact D.out j h1 hj
            · rw [RB.out, hno j h1 (by omega)]; rfl
          clear hno Q D hb
          go_wp2
          go_ret
          exact ⟨by rw [N.out]; rfl, rfl⟩
end Go.Proofs.YtihggkmjalofiaaGreatDoor

/- Things one behind another, group by group, whichever comes ahead: plain law; no program in sight. -/
namespace Go.Proofs.YtihggkmjalofiaaGreatDoor
open Go.RowKit

/-- a relation of things below n, closed -/
structure TransR (n : Nat) (R : Nat → Nat → Bool) : Prop where
  trans : ∀ {a b c : Nat}, R a b = true → R b c = true → R a c = true
  lt : ∀ {a b : Nat}, R a b = true → a < n ∧ b < n
section
variable {n : Nat} {R : Nat → Nat → Bool}
theorem groupR_like (R : Nat → Nat → Bool) (i : Nat) : groupR R i = i ∨ (groupR R i < i ∧ R i (groupR R i) = true ∧ R (groupR R i) i = true) := by
  unfold groupR
  cases h : (List.range i).find? fun j => R i j && R j i with
  | none => exact .inl rfl
  | some k =>
    have h1 := List.find?_some h
    simp only [Bool.and_eq_true] at h1
    exact .inr ⟨List.mem_range.1 (List.mem_of_find?_eq_some h), h1.1, h1.2⟩
theorem groupR_least {i j : Nat} (h : R i j = true ∧ R j i = true) (hj : j < i) : groupR R i ≤ j := by
  unfold groupR
  cases hf : (List.range i).find? fun j => R i j && R j i with
  | none =>
    have := List.find?_eq_none.1 hf j (List.mem_range.2 hj)
    rw [h.1, h.2] at this; exact absurd rfl this
  | some k =>
    show k ≤ j
    rcases Nat.lt_or_ge j k with h1 | h1
    · obtain ⟨_, l1, l2, e, h2⟩ := List.find?_eq_some_iff_append.1 hf
      have hka : l1 = List.range k := by
        have hlen : l1.length = k := by
          have h5 : (List.range i)[l1.length]? = some k := by rw [e]; simp
          rw [List.getElem?_range (by
            have := congrArg List.length e; simp at this; omega)] at h5
          exact Option.some.inj h5
        have h6 := congrArg (List.take l1.length) e
        rw [List.take_left, List.take_range] at h6
        have hki : k < i := by
          have := congrArg List.length e; simp at this; omega
        rw [← h6, hlen, Nat.min_eq_left (by omega)]
      have := h2 j (hka ▸ List.mem_range.2 h1)
      rw [h.1, h.2] at this; exact absurd this (by decide)
    · exact h1
theorem groupR_idem (T : TransR n R) (i : Nat) : groupR R (groupR R i) = groupR R i := by
  rcases groupR_like R i with h | ⟨h1, h2, h3⟩
  · rw [h, h]
  · rcases groupR_like R (groupR R i) with h | ⟨k1, k2, k3⟩
    · exact h
    · have := groupR_least (R := R) (i := i) (j := groupR R (groupR R i)) ⟨T.trans h2 k2, T.trans k3 h3⟩ (by omega)
      omega
theorem groupR_lt {i : Nat} (h : i < n) : groupR R i < n := Nat.lt_of_le_of_lt (groupR_le R i) h
/-- a group's things -/
def grpL (R : Nat → Nat → Bool) (n g : Nat) : List Nat := (List.range n).filter fun i => groupR R i == g
theorem mem_grpL {g i : Nat} : i ∈ grpL R n g ↔ i < n ∧ groupR R i = g := by simp [grpL]
theorem grpL_nodup (R : Nat → Nat → Bool) (n g : Nat) : (grpL R n g).Nodup := List.nodup_range.filter _
theorem grpL_nil (T : TransR n R) {g : Nat} (hg : g < n) : grpL R n g = [] ↔ groupR R g ≠ g := by
  constructor
  · intro h e
    have : g ∈ grpL R n g := mem_grpL.2 ⟨hg, e⟩
    rw [h] at this; cases this
  · intro h
    rw [List.eq_nil_iff_forall_not_mem]
    intro i hi
    obtain ⟨_, rfl⟩ := mem_grpL.1 hi
    exact h (groupR_idem T i)
/-- may a group come now? -/
def freeR (R : Nat → Nat → Bool) (n : Nat) (out : List Nat) (g : Nat) : Bool := (List.range n).all fun j => !befR R j g || decide (j ∈ out)
def mayG (R : Nat → Nat → Bool) (n : Nat) (out : List Nat) (g : Nat) : Bool := (groupR R g == g) && (!(decide (g ∈ out)) && freeR R n out g)
def pickG (R : Nat → Nat → Bool) (n : Nat) (out : List Nat) : Nat := ((List.range n).find? (mayG R n out)).getD n
/-- what is told after some rounds -/
def ordAt (R : Nat → Nat → Bool) (n : Nat) : Nat → List Nat
  | 0 => []
  | k + 1 => if (ordAt R n k).length < n then ordAt R n k ++ grpL R n (pickG R n (ordAt R n k)) else ordAt R n k
theorem ordAt_succ (R : Nat → Nat → Bool) (n k : Nat) : ordAt R n (k + 1) = if (ordAt R n k).length < n then ordAt R n k ++ grpL R n (pickG R n (ordAt R n k)) else ordAt R n k := rfl
/-- all, one behind another -/
def ordR (R : Nat → Nat → Bool) (n : Nat) : List Nat := ordAt R n n
structure Told (R : Nat → Nat → Bool) (n : Nat) (out : List Nat) : Prop where
  nodup : out.Nodup
  lt : ∀ i ∈ out, i < n
  grp : ∀ i, i < n → (i ∈ out ↔ groupR R i ∈ out)
theorem befR_lt (T : TransR n R) {a b : Nat} (h : befR R a b = true) : a < n ∧ b < n := by
  unfold befR at h
  simp only [Bool.and_eq_true] at h
  exact T.lt h.1
theorem befR_trans (T : TransR n R) {a b c : Nat} (h : befR R a b = true) (h2 : befR R b c = true) : befR R a c = true := by
  unfold befR at *
  simp only [Bool.and_eq_true, Bool.not_eq_true'] at *
  refine ⟨T.trans h.1 h2.1, ?_⟩
  cases hc : R c a
  · rfl
  · rw [T.trans hc h.1] at h2; exact absurd h2.2 (by decide)
theorem befR_irr (R : Nat → Nat → Bool) (a : Nat) : befR R a a = false := by
  unfold befR; cases R a a <;> rfl
def cntB (R : Nat → Nat → Bool) (n i : Nat) : Nat := ((List.range n).filter fun j => befR R j i).length
theorem cntB_lt (T : TransR n R) {i j : Nat} (h : befR R j i = true) : cntB R n j < cntB R n i := by
  unfold cntB
  have hs : ((List.range n).filter fun k => befR R k j).Sublist ((List.range n).filter fun k => befR R k i) := by
    have e : ((List.range n).filter fun k => befR R k j) = (((List.range n).filter fun k => befR R k i).filter fun k => befR R k j) := by
      rw [List.filter_filter]
      refine List.filter_congr fun k _ => ?_
      cases hk : befR R k j
      · rfl
      · rw [befR_trans T hk h]; rfl
    rw [e]; exact List.filter_sublist
  rcases Nat.lt_or_ge ((List.range n).filter fun k => befR R k j).length ((List.range n).filter fun k => befR R k i).length with h1 | h1
  · exact h1
  · have e := hs.eq_of_length_le h1
    have hj : j ∈ (List.range n).filter fun k => befR R k i := List.mem_filter.2 ⟨List.mem_range.2 (befR_lt T h).1, h⟩
    rw [← e] at hj
    have := (List.mem_filter.1 hj).2
    rw [befR_irr] at this; cases this
theorem least_left (T : TransR n R) {out : List Nat} : ∀ (m i : Nat), cntB R n i ≤ m → i < n → i ∉ out → ∃ k, k < n ∧ k ∉ out ∧ ∀ j, befR R j k = true → j ∈ out
  | 0, i, hm, hi, ho => ⟨i, hi, ho, fun j hj => by have := cntB_lt T hj; omega⟩
  | m + 1, i, hm, hi, ho => by
    by_cases h : ∀ j, befR R j i = true → j ∈ out
    · exact ⟨i, hi, ho, h⟩
    · obtain ⟨j, hj, hjo⟩ : ∃ j, befR R j i = true ∧ j ∉ out := Classical.byContradiction fun hc => h fun j hj => Classical.byContradiction fun hn => hc ⟨j, hj, hn⟩
      exact least_left T m j (by have := cntB_lt T hj; omega) (befR_lt T hj).1 hjo
theorem pigeon {out : List Nat} (h : out.length < n) : ∃ i, i < n ∧ i ∉ out := by
  refine Classical.byContradiction fun hc => ?_
  have hs : ∀ i ∈ List.range n, i ∈ out := fun i hi => Classical.byContradiction fun hn => hc ⟨i, List.mem_range.1 hi, hn⟩
  have := (List.nodup_range (n := n)).length_le_of_subset hs
  rw [List.length_range] at this
  omega
/-- some group may come, unless all is told -/
theorem pick_there (T : TransR n R) {out : List Nat} (hT : Told R n out) (h : out.length < n) : ∃ g, (List.range n).find? (mayG R n out) = some g ∧ pickG R n out = g ∧ g < n ∧ mayG R n out g = true := by
  obtain ⟨i, hi, hio⟩ := pigeon h
  obtain ⟨k, hk, hko, hkb⟩ := least_left T _ i (Nat.le_refl _) hi hio
  have hm : mayG R n out (groupR R k) = true := by
    unfold mayG
    rw [groupR_idem T, beq_self_eq_true, Bool.true_and, Bool.and_eq_true, Bool.not_eq_true', decide_eq_false_iff_not]
    refine ⟨fun hc => hko ((hT.grp k hk).2 hc), ?_⟩
    unfold freeR
    rw [List.all_eq_true]
    intro j _
    cases hb : befR R j (groupR R k)
    · rfl
    · rw [Bool.not_true, Bool.false_or, decide_eq_true_eq]
      rcases groupR_like R k with e | ⟨_, h2, h3⟩
      · rw [e] at hb; exact hkb j hb
      · refine hkb j ?_
        unfold befR at hb ⊢
        simp only [Bool.and_eq_true, Bool.not_eq_true'] at hb ⊢
        refine ⟨T.trans hb.1 h3, ?_⟩
        cases hc : R k j
        · rfl
        · rw [T.trans h3 hc] at hb; exact absurd hb.2 (by decide)
  cases hf : (List.range n).find? (mayG R n out) with
  | none => exact absurd hm (List.find?_eq_none.1 hf _ (List.mem_range.2 (groupR_lt hk)))
  | some g => exact ⟨g, rfl, by unfold pickG; rw [hf]; rfl, List.mem_range.1 (List.mem_of_find?_eq_some hf), List.find?_some hf⟩
theorem Told.more (T : TransR n R) {out : List Nat} (hT : Told R n out) {g : Nat} (hg : mayG R n out g = true) (hgn : g < n) : Told R n (out ++ grpL R n g) ∧ out.length < (out ++ grpL R n g).length := by
  unfold mayG at hg
  simp only [Bool.and_eq_true, beq_iff_eq, Bool.not_eq_true', decide_eq_false_iff_not] at hg
  refine ⟨⟨List.nodup_append.2 ⟨hT.nodup, grpL_nodup _ _ _, fun a ha b hb => ?_⟩, fun i hi => ?_, fun i hi => ?_⟩, ?_⟩
  · rintro rfl
    obtain ⟨h1, h2⟩ := mem_grpL.1 hb
    exact hg.2.1 (h2 ▸ (hT.grp a h1).1 ha)
  · rcases List.mem_append.1 hi with h | h
    · exact hT.lt i h
    · exact (mem_grpL.1 h).1
  · rw [List.mem_append, List.mem_append, mem_grpL, mem_grpL, hT.grp i hi, groupR_idem T]
    constructor
    · rintro (h | ⟨_, h⟩)
      · exact .inl h
      · exact .inr ⟨groupR_lt hi, h⟩
    · rintro (h | ⟨_, h⟩)
      · exact .inl h
      · exact .inr ⟨hi, h⟩
  · rw [List.length_append]
    have : g ∈ grpL R n g := mem_grpL.2 ⟨hgn, hg.1⟩
    have := List.length_pos_of_mem this
    omega
theorem ordAt_told (T : TransR n R) : ∀ k, Told R n (ordAt R n k) ∧ (k ≤ (ordAt R n k).length ∨ (ordAt R n k).length = n)
  | 0 => ⟨⟨List.nodup_nil, by simp [ordAt], by simp [ordAt]⟩, .inl (Nat.zero_le _)⟩
  | k + 1 => by
    obtain ⟨h1, h2⟩ := ordAt_told T k
    have hle : (ordAt R n k).length ≤ n := by
      have := h1.nodup.length_le_of_subset (l₂ := List.range n) (fun i hi => List.mem_range.2 (h1.lt i hi))
      rwa [List.length_range] at this
    unfold ordAt
    split
    · rename_i hlt
      obtain ⟨g, _, e, hg, hm⟩ := pick_there T h1 hlt
      rw [e]
      obtain ⟨m1, m2⟩ := h1.more T hm hg
      exact ⟨m1, .inl (by omega)⟩
    · exact ⟨h1, .inr (by omega)⟩
theorem Told.le {out : List Nat} (hT : Told R n out) : out.length ≤ n := by
  have := hT.nodup.length_le_of_subset (l₂ := List.range n) (fun i hi => List.mem_range.2 (hT.lt i hi))
  rwa [List.length_range] at this
theorem ordAt_stay {k : Nat} (h : (ordAt R n k).length = n) : ∀ m, ordAt R n (k + m) = ordAt R n k
  | 0 => rfl
  | m + 1 => by
    show ordAt R n (k + m + 1) = _
    rw [ordAt_succ, ordAt_stay h m, if_neg (by omega)]
theorem ordR_told (T : TransR n R) : Told R n (ordR R n) ∧ (ordR R n).length = n := by
  obtain ⟨h1, h2⟩ := ordAt_told T n
  refine ⟨h1, ?_⟩
  have := h1.le
  unfold ordR
  omega
theorem ordAt_done (T : TransR n R) {k : Nat} (h : ¬ (ordAt R n k).length < n) : ordAt R n k = ordR R n := by
  have h1 : (ordAt R n k).length = n := by have := (ordAt_told T k).1.le; omega
  have h2 := (ordR_told T).2
  unfold ordR at *
  rcases Nat.le_total k n with c | c
  · obtain ⟨m, rfl⟩ := Nat.exists_eq_add_of_le c
    exact (ordAt_stay h1 m).symm
  · obtain ⟨m, rfl⟩ := Nat.exists_eq_add_of_le c
    exact ordAt_stay h2 m
theorem ordAt_next {k : Nat} (h : (ordAt R n k).length < n) : ordAt R n (k + 1) = ordAt R n k ++ grpL R n (pickG R n (ordAt R n k)) := by
  rw [ordAt, if_pos h]
end
end Go.Proofs.YtihggkmjalofiaaGreatDoor

/- Rows of a relation as they lie: a row more, a row's words written. -/
namespace Go.Proofs.YtihggkmjalofiaaGreatDoor
open Go.RowKit
open Go.MapKept
open Go.ChangeMaps (setBlock)

theorem intSlH : SlT Tryz.prog 232 3 1 8 := slT_of Tryz.underlying232 (z := .int .i64 0) (by kernel_rfl) rfl (by omega)
theorem entR_snoc (T : List Row7) (r : Row7) : entR (T ++ [r]) = entR T ++ [(.int .i64 (r.i : Int), .pointer (some ⟨r.g, 0, none⟩))] := by unfold entR; rw [List.map_append]; rfl
theorem relT_snoc (T : List Row7) (r : Row7) (a b : Nat) : relT (T ++ [r]) a b = (relT T a b || ((r.i == a) && bitAt r.ws b)) := by
  unfold relT; rw [List.any_append]; simp
section
variable {w w' : World} {gm n : Nat} {T : List Row7}
/-- a row more -/
theorem RowsAt7.add (h : RowsAt7 w gm n T) {i g gw : Nat} {ws : List Nat} (hi : i < n) (hn : n ≤ 65536) (hno : ∀ r ∈ T, r.i ≠ i) (hm : MaskAt w g gw n ws) (hc : CleanW n ws) (hg : ∀ r ∈ T, r.g ≠ g ∧ r.gw ≠ gw) :
    ∃ o, (Instr.mapUpdate 394 (.map (some gm)) (.int .i64 (i : Int)) (.pointer (some ⟨g, 0, none⟩))).run Tryz.prog w = .ok () (setBlock w gm o) ∧ RowsAt7 (setBlock w gm o) gm n (T ++ [⟨i, g, gw, ws⟩]) := by
  obtain ⟨o, l', hrun, hput, hM⟩ := h.map.putK (val := .pointer (some ⟨g, 0, none⟩)) kLawN kMapM (kKeyN (i := (i : Int)) (by omega))
  have hl : l' = entR (T ++ [⟨i, g, gw, ws⟩]) := by
    rw [entR_snoc]
    rcases hput with ⟨_, e⟩ | ⟨j, v0, hj, _⟩
    · exact e
    · obtain ⟨r, hr, e⟩ := List.mem_map.1 (List.mem_of_getElem? hj)
      simp only [Prod.mk.injEq, Value.int.injEq, true_and] at e
      exact absurd (by have := e.1; omega) (hno r hr)
  subst hl
  have kp : ∀ {g' gw' : Nat} {ws' : List Nat}, MaskAt w g' gw' n ws' → MaskAt (setBlock w gm o) g' gw' n ws' := fun k =>
    k.keep (setBlock_other (blk_ne_map k.blk h.map)) (setBlock_other (own_ne_map k.own h.map rfl))
  refine ⟨o, hrun, hM, fun r hr => ?_, fun r hr => ?_, fun r hr => ?_, ?_⟩
  · rcases List.mem_append.1 hr with hr | hr
    · exact kp (h.row r hr)
    · rw [List.mem_singleton] at hr; subst hr; exact kp hm
  · rcases List.mem_append.1 hr with hr | hr
    · exact h.cl r hr
    · rw [List.mem_singleton] at hr; subst hr; exact hc
  · rcases List.mem_append.1 hr with hr | hr
    · exact h.lt r hr
    · rw [List.mem_singleton] at hr; subst hr; exact hi
  · refine List.pairwise_append.2 ⟨h.ap, List.pairwise_singleton _ _, fun a ha b hb => ?_⟩
    rw [List.mem_singleton] at hb
    subst hb
    exact ⟨hno a ha, (hg a ha).1, (hg a ha).2⟩
/-- one row's words are written -/
def updT (T : List Row7) (i : Nat) (ws : List Nat) : List Row7 := T.map fun s => if s.i = i then ⟨s.i, s.g, s.gw, ws⟩ else s
theorem updT_i (T : List Row7) (i : Nat) (ws : List Nat) : (updT T i ws).map (·.i) = T.map (·.i) := by
  unfold updT
  rw [List.map_map]
  refine List.map_congr_left fun s _ => ?_
  simp only [Function.comp]
  split <;> rfl
theorem updT_mem {i : Nat} {ws : List Nat} {r : Row7} (h : r ∈ updT T i ws) : ∃ s ∈ T, r.i = s.i ∧ r.g = s.g ∧ r.gw = s.gw ∧ ((s.i = i ∧ r.ws = ws) ∨ (s.i ≠ i ∧ r = s)) := by
  unfold updT at h
  obtain ⟨s, hs, rfl⟩ := List.mem_map.1 h
  refine ⟨s, hs, ?_⟩
  split
  · rename_i e; exact ⟨rfl, rfl, rfl, .inl ⟨e, rfl⟩⟩
  · rename_i e; exact ⟨rfl, rfl, rfl, .inr ⟨e, rfl⟩⟩
theorem entR_upd (T : List Row7) (i : Nat) (ws : List Nat) : entR (updT T i ws) = entR T := by
  unfold entR updT
  rw [List.map_map]
  refine List.map_congr_left fun s _ => ?_
  simp only [Function.comp]
  split <;> rfl
theorem RowsAt7.upd (h : RowsAt7 w gm n T) {r : Row7} (hr : r ∈ T) {ws : List Nat} (hm : MaskAt w' r.g r.gw n ws) (hc : CleanW n ws) (hk : Kept (fun k => k = r.gw) w w') : RowsAt7 w' gm n (updT T r.i ws) := by
  have hgm : gm ≠ r.gw := (own_ne_map (h.row r hr).own h.map rfl).symm
  refine ⟨?_, fun s hs => ?_, fun s hs => ?_, fun s hs => ?_, ?_⟩
  · rw [entR_upd]
    exact h.map.keep (hk.block gm h.map.lt hgm)
  · obtain ⟨t, ht, e1, e2, e3, e4⟩ := updT_mem hs
    rcases e4 with ⟨e4, e5⟩ | ⟨e4, rfl⟩
    · obtain rfl := h.one ht hr e4
      rw [e2, e3, e5]; exact hm
    · have hp : s.g ≠ r.gw ∧ s.gw ≠ r.gw := by
        refine ⟨(own_ne_blk (h.row r hr).own (h.row s ht).blk (by decide) rfl).symm, fun e => e4 ?_⟩
        obtain ⟨i, hi, rfl⟩ := List.getElem_of_mem hr
        obtain ⟨j, hj, rfl⟩ := List.getElem_of_mem ht
        have hp := List.pairwise_iff_getElem.1 h.ap
        rcases Nat.lt_trichotomy i j with c | c | c
        · exact absurd e.symm (hp i j hi hj c).2.2
        · subst c; rfl
        · exact absurd e (hp j i hj hi c).2.2
      exact (h.row s ht).keep (hk.block _ (h.row s ht).lt.1 hp.1) (hk.block _ (h.row s ht).lt.2 hp.2)
  · obtain ⟨t, ht, e1, e2, e3, e4⟩ := updT_mem hs
    rcases e4 with ⟨e4, e5⟩ | ⟨e4, rfl⟩
    · rw [e5]; exact hc
    · exact h.cl s ht
  · obtain ⟨t, ht, e1, _⟩ := updT_mem hs
    rw [e1]; exact h.lt t ht
  · unfold updT
    rw [List.pairwise_map]
    refine h.ap.imp fun {a b} hab => ?_
    split <;> split <;> exact hab
theorem relT_upd {r : Row7} (hr : r ∈ T) (ws : List Nat) (a b : Nat) : relT (updT T r.i ws) a b = if a = r.i then bitAt ws b else relT T a b := by
  unfold relT updT
  rw [List.any_map]
  split
  · rename_i e
    subst e
    cases hb : bitAt ws b
    · rw [List.any_eq_false]
      intro s hs
      simp only [Function.comp]
      split
      · simp [hb]
      · rename_i e; simp [e]
    · rw [List.any_eq_true]
      exact ⟨r, hr, by simp [hb]⟩
  · rename_i e
    congr 1
    funext s
    simp only [Function.comp]
    split
    · rename_i e2
      have : (s.i == a) = false := by simp; omega
      rw [this]; rfl
    · rfl
end
end Go.Proofs.YtihggkmjalofiaaGreatDoor

/- Which things come ahead of which is made out of steps: walked. -/
namespace Go.Proofs.YtihggkmjalofiaaGreatDoor
open Go.RowKit
open Go.MapKept
open Go.ChangeMaps (setBlock)

def encS (x : Nat × Nat) : List Value := [.int .i64 (x.1 : Int), .int .i64 (x.2 : Int)]
/-- steps lead from one thing to another one -/
def ViaL (L : List (Nat × Nat)) (a b : Nat) : Prop := Via (fun x y => (x, y) ∈ L) (fun _ => True) a b
def RetRel (w : World) (n : Nat) (L : List (Nat × Nat)) (e : Ending) (w' : World) : Prop :=
  ∃ g R, e = .returned (.pointer (some ⟨g, 0, none⟩)) ∧ RelAt w' g n R ∧ (∀ a b, R a b = true ↔ ViaL L a b) ∧ w.heap.size ≤ g ∧ Below w.heap.size w w'
theorem encN_at {w : World} {base c : Nat} {A : Option Addr} {F : List Nat} (h : w.ownsRow base 3 1 (.slice A F.length c) F.length (F.map fun (i : Nat) => Value.int .i64 (i : Int))) {k : Nat} (hk : k < F.length) :
    ∃ b o, A = some ⟨b, o, none⟩ ∧ b < w.heap.size ∧ w.cell? ⟨b, o + k, none⟩ = some (.int .i64 (F[k] : Int)) := by
  obtain ⟨A', c', e, _, hs⟩ := Sl.of_own h
  cases e
  obtain ⟨b, o, u, h1, h2, h3, h4⟩ := hs.at_ hk
  rw [List.getElem?_map, List.getElem?_eq_getElem hk] at h3
  exact ⟨b, o, h1, h2, h4.trans h3.symm⟩
def memL (L : List (Nat × Nat)) (a b : Nat) : Bool := decide ((a, b) ∈ L)
theorem memL_snoc (L : List (Nat × Nat)) (x : Nat × Nat) (a b : Nat) : memL (L ++ [x]) a b = (memL L a b || (decide (x.1 = a) && decide (x.2 = b))) := by
  unfold memL
  rw [Bool.eq_iff_iff]
  simp only [List.mem_append, List.mem_singleton, decide_eq_true_eq, Bool.or_eq_true, Bool.and_eq_true, Prod.ext_iff]
  constructor
  · rintro (h | ⟨h1, h2⟩)
    · exact .inl h
    · exact .inr ⟨h1.symm, h2.symm⟩
  · rintro (h | ⟨h1, h2⟩)
    · exact .inl h
    · exact .inr ⟨h1.symm, h2.symm⟩
/-- the rows as they stand behind some steps, blocks from a base on -/
structure RowsS (w : World) (B gm n : Nat) (T : List Row7) : Prop where
  at_ : RowsAt7 w gm n T
  ge : ∀ r ∈ T, B ≤ r.g ∧ B ≤ r.gw
section
variable {w w' : World} {B gm n : Nat} {T : List Row7}
theorem RowsS.ext (h : RowsS w B gm n T) (hb : Below w.heap.size w w') : RowsS w' B gm n T := ⟨h.at_.ext hb, h.ge⟩
theorem RowsS.upd (h : RowsS w B gm n T) {r : Row7} (hr : r ∈ T) {ws : List Nat} (hm : MaskAt w' r.g r.gw n ws) (hc : CleanW n ws) (hk : Kept (fun k => k = r.gw) w w') : RowsS w' B gm n (updT T r.i ws) :=
  ⟨h.at_.upd hr hm hc hk, fun s hs => by
    obtain ⟨t, ht, _, e2, e3, _⟩ := updT_mem hs
    rw [e2, e3]; exact h.ge t ht⟩
/-- a number is put into a row -/
theorem RowsS.putted (h : RowsS w B gm n T) {r : Row7} (hr : r ∈ T) {b : Nat} (hb : b < n) (hm : MaskAt w' r.g r.gw n (putM n r.ws (b : Int))) (hk : Kept (fun k => k = r.gw) w w') :
    RowsS w' B gm n (updT T r.i (putM n r.ws (b : Int))) ∧ ∀ x y, relT (updT T r.i (putM n r.ws (b : Int))) x y = (relT T x y || (decide (r.i = x) && decide (b = y))) := by
  have hcl := h.at_.cl r hr
  have hok := (h.at_.row r hr).ok
  have e : ∀ y, bitAt (putM n r.ws (b : Int)) y = (bitAt r.ws y || decide (b = y)) := fun y => by
    unfold putM newM
    rw [decide_eq_true (show (0 : Int) ≤ (b : Int) by omega), decide_eq_true (show (b : Int) < (n : Int) by omega), Int.toNat_natCast]
    cases hbit : bitAt r.ws b
    · simp only [Bool.not_false, Bool.and_self, if_true]
      exact bit_putW hok hb y
    · simp only [Bool.not_true, Bool.and_false, Bool.false_eq_true, if_false]
      by_cases hy : b = y
      · subst hy; rw [hbit]; rfl
      · rw [decide_eq_false hy, Bool.or_false]
  refine ⟨h.upd hr hm (fun i hi => ?_) hk, fun x y => ?_⟩
  · rw [e, hcl i hi, decide_eq_false (by omega)]; rfl
  · rw [relT_upd hr]
    by_cases hx : x = r.i
    · subst hx
      rw [if_pos rfl, e, h.at_.rel hr, decide_eq_true rfl, Bool.true_and]
    · rw [if_neg hx, decide_eq_false (fun e => hx e.symm), Bool.false_and, Bool.or_false]
/-- one row takes in another one -/
theorem RowsS.ored (h : RowsS w B gm n T) {r s : Row7} (hr : r ∈ T) (hs : s ∈ T) (hm : MaskAt w' r.g r.gw n (orW r.ws s.ws n)) (hk : Kept (fun k => k = r.gw) w w') (hrs : relT T r.i s.i = true) :
    RowsS w' B gm n (updT T r.i (orW r.ws s.ws n)) ∧ relT (updT T r.i (orW r.ws s.ws n)) = orRow (relT T) r.i s.i := by
  have hcl : CleanW n (orW r.ws s.ws n) := (h.at_.cl r hr).orW (h.at_.row s hs).ok
  refine ⟨h.upd hr hm hcl hk, ?_⟩
  funext x y
  rw [relT_upd hr]
  unfold orRow
  by_cases hx : x = r.i
  · rw [if_pos hx, if_pos ⟨hx, hrs⟩, h.at_.rel hr, h.at_.rel hs]
    rcases Nat.lt_or_ge y n with hy | hy
    · exact orW_bit (h.at_.row r hr).ok (h.at_.row s hs).ok hy
    · rw [hcl y hy, h.at_.cl r hr y hy, h.at_.cl s hs y hy]; rfl
  · rw [if_neg hx, if_neg (fun h => hx h.1)]
end
theorem orRow_no {R : Nat → Nat → Bool} {i k : Nat} (h : R i k = false) : orRow R i k = R := by
  funext a b
  unfold orRow
  rw [if_neg (fun hc => by rw [h] at hc; cases hc.2)]
theorem row_of {T : List Row7} {i : Nat} (h : i ∈ T.map (·.i)) : ∃ r ∈ T, r.i = i := by
  obtain ⟨r, hr, e⟩ := List.mem_map.1 h
  exact ⟨r, hr, e⟩
theorem makeR8 (w : World) : (Instr.makeMap 394 none).run Tryz.prog w = .ok (.map (some w.heap.size)) (w.alloc (.map #[] 0)) := by kernel_rfl
theorem allocS2 (w : World) : (Instr.alloc 338 true (.tuple #[])).run Tryz.prog w = .ok (.pointer (some ⟨w.heap.size, 0, none⟩)) (w.alloc (.cells #[.int .i64 0, .int .i64 0] 338)) := by kernel_rfl
theorem underS2 : Tryz.prog.underlying 338 = some (.array 2 3) := by kernel_rfl
theorem infoS2 : (Tryz.prog.info? 338).map (·.size) = some 2 := by kernel_rfl
theorem loadMapM (b o : Nat) (w : World) (gm : Nat) (h : w.cell? ⟨b, o, none⟩ = some (.map (some gm))) : (Instr.loadAt 394 (.pointer (some ⟨b, o, none⟩))).run Tryz.prog w = .ok (.map (some gm)) w := by simp [go_sem, h]
theorem fieldRel1 (g : Nat) (w : World) : (Instr.fieldAt 396 (.pointer (some ⟨g, 0, none⟩)) 1).run Tryz.prog w = .ok (.pointer (some ⟨g, 1, none⟩)) w := by simp [go_sem]
theorem indexS2 (g : Nat) (w : World) : (Instr.indexAt 338 (.pointer (some ⟨g, 0, none⟩)) (.int .i64 0)).run Tryz.prog w = .ok (.pointer (some ⟨g, 0, none⟩)) w := by simp [go_sem]
theorem encS_one (x : Nat × Nat) : ((encS x).toArray).all (·.oneCell') = true := by simp [encS, Value.oneCell']
theorem RowsAt7.lookRow {w : World} {gm n : Nat} {T : List Row7} (h : RowsAt7 w gm n T) {r : Row7} (hr : r ∈ T) (hn : n ≤ 65536) :
    ∀ w' : World, w'.heap[gm]? = w.heap[gm]? → (Instr.lookup 394 (.map (some gm)) (.int .i64 (r.i : Int)) false).run Tryz.prog w' = .ok (.pointer (some ⟨r.g, 0, none⟩)) w' := by
  have hlt := h.lt r hr
  obtain ⟨v, hl, hv⟩ := h.look (r.i : Int) (by omega)
  rcases hv with ⟨_, hno⟩ | ⟨s, hs, e, rfl⟩
  · exact absurd rfl (hno r hr)
  · obtain rfl := h.one hs hr (by omega)
    exact hl
theorem RowsAt7.or_any {w : World} {gm n : Nat} {T : List Row7} (h : RowsAt7 w gm n T) {r s : Row7} (hr : r ∈ T) (hs : s ∈ T) :
    Calls Tryz.prog 310 #[.pointer (some ⟨r.g, 0, none⟩), .pointer (some ⟨s.g, 0, none⟩)] w (RetOr w r.g r.gw n (orW r.ws s.ws n)) := by
  by_cases e : s.gw = r.gw
  · have : s = r := by
      obtain ⟨i, hi, rfl⟩ := List.getElem_of_mem hr
      obtain ⟨j, hj, rfl⟩ := List.getElem_of_mem hs
      have hp := List.pairwise_iff_getElem.1 h.ap
      rcases Nat.lt_trichotomy i j with c | c | c
      · exact absurd e.symm (hp i j hi hj c).2.2
      · subst c; rfl
      · exact absurd e (hp j i hj hi c).2.2
    subst this
    exact or7_self (h.row s hs)
  · exact or7_any (h.row r hr) (h.row s hs) (own_ne_blk (h.row r hr).own (h.row s hs).blk (by decide) rfl).symm e
theorem hasM_clean {n : Nat} {ws : List Nat} (h : CleanW n ws) (i : Nat) : hasM n ws (i : Int) = bitAt ws i := by
  unfold hasM
  rw [decide_eq_true (show (0 : Int) ≤ (i : Int) by omega), Bool.true_and, Int.toNat_natCast]
  by_cases hi : i < n
  · rw [decide_eq_true (show (i : Int) < (n : Int) by omega), Bool.true_and]
  · rw [h i (by omega), Bool.and_false]
def encN (F : List Nat) : List Value := F.map fun (i : Nat) => Value.int .i64 (i : Int)
/-- what stands while the steps are gone through -/
structure St8 (w wr : World) (gr n : Nat) (T : List Row7) (F : List Nat) (v : Value) : Prop where
  rows : RowsS wr w.heap.size w.heap.size n T
  blk : Blk wr gr 396 #[.int .i64 (n : Int), .map (some w.heap.size)]
  own : wr.ownsRow w.heap.size 3 1 v F.length (encN F)
  below : Below w.heap.size w wr
section
variable {w wr w2 : World} {gr n : Nat} {T : List Row7} {F : List Nat} {v : Value}
theorem St8.ext (h : St8 w wr gr n T F v) (hb : Below wr.heap.size wr w2) : St8 w w2 gr n T F v := ⟨h.rows.ext hb, h.blk.ext hb, own_ext h.own hb, h.below.trans (hb.mono h.below.size)⟩
theorem St8.wrote (h : St8 w wr gr n T F v) {r : Row7} (hr : r ∈ T) {T' : List Row7} (hT : RowsS w2 w.heap.size w.heap.size n T') (hk : Kept (fun k => k = r.gw) wr w2) : St8 w w2 gr n T' F v :=
  ⟨hT, h.blk.keep (hk.block gr h.blk.lt (own_ne_blk (h.rows.at_.row r hr).own h.blk (by decide) rfl).symm),
    own_keepF h.own fun g hg => hk.block g (h.own.lt g hg).2 (own_ne_own h.own (h.rows.at_.row r hr).own (by decide) hg rfl),
    h.below.trans (hk.below (fun k e => by rw [e]; exact (h.rows.ge r hr).2) h.below.size)⟩
theorem St8.mapped (h : St8 w wr gr n T F v) {T' : List Row7} (hT : RowsAt7 w2 w.heap.size n T') (hg : ∀ r ∈ T', w.heap.size ≤ r.g ∧ w.heap.size ≤ r.gw) (hk : Kept (fun k => k = w.heap.size) wr w2) : St8 w w2 gr n T' F v :=
  ⟨⟨hT, hg⟩, h.blk.keep (hk.block gr h.blk.lt (blk_ne_map h.blk h.rows.at_.map)), own_keepF h.own fun g hg => hk.block g (h.own.lt g hg).2 (own_ne_map h.own h.rows.at_.map hg),
    h.below.trans (hk.below (fun k e => by omega) h.below.size)⟩
theorem St8.pushed (h : St8 w wr gr n T F v) {i : Nat} {v' : Value} (ho : w2.ownsRow w.heap.size 3 1 v' (F.length + 1) (encN F ++ [.int .i64 (i : Int)])) (hk : Kept (fun k => v.ownBlock = some k) wr w2) : St8 w w2 gr n T (F ++ [i]) v' :=
  ⟨⟨⟨h.rows.at_.map.keep (hk.block _ h.rows.at_.map.lt fun e => own_ne_map h.own h.rows.at_.map e rfl),
      fun r hr => (h.rows.at_.row r hr).keep (hk.block _ (h.rows.at_.row r hr).lt.1 fun e => own_ne_blk h.own (h.rows.at_.row r hr).blk (by decide) e rfl)
        (hk.block _ (h.rows.at_.row r hr).lt.2 fun e => own_ne_own h.own (h.rows.at_.row r hr).own (by decide) e rfl rfl), h.rows.at_.cl, h.rows.at_.lt, h.rows.at_.ap⟩, h.rows.ge⟩,
    h.blk.keep (hk.block gr h.blk.lt fun e => own_ne_blk h.own h.blk (by decide) e rfl),
    by
      have e : encN (F ++ [i]) = encN F ++ [.int .i64 (i : Int)] := by unfold encN; rw [List.map_append]; rfl
      rw [e, List.length_append]; exact ho,
    h.below.trans (hk.below (fun k e => (h.own.lt k e).1) h.below.size)⟩
theorem St8.cellM (h : St8 w wr gr n T F v) : wr.cell? ⟨gr, 1, none⟩ = some (.map (some w.heap.size)) := h.blk.cell 1
end
set_option maxRecDepth 100000 in
set_option maxHeartbeats 8000000 in
theorem of8_any {w : World} {n : Nat} (hn : n ≤ 65536) {L : List (Nat × Nat)} (hL : ∀ x ∈ L, x.1 < n ∧ x.2 < n) {A : Option Addr} {c : Nat} (hs : Sl w w.heap.size 2 A L.length (L.flatMap encS)) (hl : L.length ≤ 1000000) :
    Calls Tryz.prog 249 #[.int .i64 (n : Int), .slice A L.length c] w (RetRel w n L) := by
  have S := Lib.hid hs
  have HLm := Lib.hid hL
  have hmn : min (n : Int) 65536 = (n : Int) := by omega
  have hmk := makeR8
  have hn0 : Hid (n ≤ 65536) := hn
  clear hs hL
  go_enter Tryz.func249, Tryz.ntmps249
  go_upto_region 4 with fail
  have ST0 : Hid (St8 w ((w.alloc (.map #[] 0)).alloc (.cells #[.int .i64 (n : Int), .map (some w.heap.size)] 396)) (w.heap.size + 1) n [] [] (.slice none 0 0)) :=
    ⟨⟨⟨(MapIs.made _ _ _).alloc _, (by simp), (by simp), (by simp), .nil⟩, by simp⟩, Blk.newAt (by simp) _ _, World.ownsRow_nil _ _ _ _, ((Below.refl _ _).alloc (Nat.le_refl _) _).alloc (by simp) _⟩
  have hgr : Hid (w.heap.size ≤ w.heap.size + 1) := Nat.le_succ _
  generalize ((w.alloc (.map #[] 0)).alloc (.cells #[.int .i64 (n : Int), .map (some w.heap.size)] 396)) = w0 at *
  generalize w.heap.size + 1 = gr at *
  clear hmk hmn
  go_wp2_with fail
  go_loopw [6, 22] (fun v i wr => ∃ (k : Nat) (T : List Row7) (F : List Nat), k ≤ L.length ∧ T.length ≤ k ∧ i = .int .i64 k ∧ T.map (·.i) = F ∧ Hid (St8 w wr gr n T F v) ∧ Hid (relT T = memL (L.take k))) (fun _ i _ => L.length - (intOf i).toNat)
  case atStart => exact ⟨0, [], [], by omega, by simp, rfl, rfl, ST0.out, by funext a b; rfl⟩
  case round =>
    clear ST0
    obtain ⟨k, T, F, hk, hTk, rfl, FI, ST, REL⟩ := hrel
    have hk0 : (0 : Int) ≤ (k : Int) := by omega
    by_cases hlt : k < L.length
    · have hlk : (k : Int) < (L.length : Int) := by omega
      obtain ⟨b, o, rfl, hb, hr⟩ := S.out.rowAt rfl (fun x _ => rfl) hlt
      have hLt : Hid (L.take (k + 1) = L.take k ++ [L[k]]) := by rw [Hid, List.take_add_one, List.getElem?_eq_getElem hlt]; rfl
      obtain ⟨hx1, hx2⟩ := HLm.out L[k] (List.getElem_mem hlt)
      generalize L[k] = x at *
      obtain ⟨xa, xb⟩ := x
      have R := Lib.hid (rangeAt_below hr ST.out.below hb)
      have hxn : Hid (xa < n) := hx1
      have hbn : Hid (xb < n) := hx2
      have hxl : Hid (xa ≤ 65536) := by rw [Hid]; have := hn0.out; omega
      have HFa := Lib.hid (fun u => fits8_any (xa : Int) (n : Int) u)
      have HFb := Lib.hid (fun u => fits8_any (xb : Int) (n : Int) u)
      simp only at hx1 hx2
      rw [decide_eq_true (show (0 : Int) ≤ (xa : Int) by omega), decide_eq_true (show (xa : Int) < (n : Int) by omega), Bool.and_self] at HFa
      rw [decide_eq_true (show (0 : Int) ≤ (xb : Int) by omega), decide_eq_true (show (xb : Int) < (n : Int) by omega), Bool.and_self] at HFb
      have K1 : Hid (Blk ((wr.alloc (.cells #[.int .i64 0, .int .i64 0] 338)).setRow wr.heap.size (encS (xa, xb)).toArray) wr.heap.size 338 (encS (xa, xb)).toArray) := (Blk.new _ _ _).row _
      have B1 : Hid (Below wr.heap.size wr ((wr.alloc (.cells #[.int .i64 0, .int .i64 0] 338)).setRow wr.heap.size (encS (xa, xb)).toArray)) := below_setRow ((Below.refl _ _).alloc (Nat.le_refl _) _) (Nat.le_refl _) _
      clear hr hx1 hx2 hb
      go_upto_region 7 with (first
        | (refine wpList_load_mid rfl 338 _ (by rfl) b (o + k * 2) (by rfl) _ _ R.out underS2 rfl infoS2 ?_)
        | (refine wpList_alloced (allocS2 _) ?_)
        | (refine wpList_store_row rfl 338 _ _ (by rfl) wr.heap.size (encS (xa, xb)).toArray (by rfl) (by rfl) _ _ (Blk.new _ _ _) infoS2 rfl (encS_one _) ?_))
      have ST := Lib.hid (ST.out.ext B1.out)
      clear B1 R
      generalize ((wr.alloc (.cells #[.int .i64 0, .int .i64 0] 338)).setRow wr.heap.size (encS (xa, xb)).toArray) = w1 at *
      generalize wr.heap.size = gx at *
      have x0 : w1.cell? ⟨gx, 0, none⟩ = some (.int .i64 (xa : Int)) := K1.out.cell 0
      have x1 : w1.cell? ⟨gx, 1, none⟩ = some (.int .i64 (xb : Int)) := K1.out.cell 1
      go_wp2_with fail
      refine (HFa.out _).mono ?_
      rintro e w1' ⟨rfl, rfl⟩
      go_wp2_with fail
      refine (HFb.out _).mono ?_
      rintro e w1 ⟨rfl, rfl⟩
      go_upto_region 8 with fail
      obtain ⟨v8, hl8, hv8⟩ := ST.out.rows.at_.look (xa : Int) (by have := hxl.out; omega)
      have gml := ST.out.rows.at_.map.lt
      have HL8 : Hid (∀ w' : World, (∃ z : Ext w1, w' = z.w) → (Instr.lookup 394 (.map (some w.heap.size)) (.int .i64 (xa : Int)) false).run Tryz.prog w' = .ok v8 w') := by
        rintro _ ⟨z, rfl⟩; exact hl8 _ (z.h.block _ gml)
      have c8 : ∀ z : Ext w1, z.w.cell? ⟨gr, 1, none⟩ = some (.map (some w.heap.size)) := fun z => (ST.out.ext z.h).cellM
      have cx : ∀ z : Ext w1, z.w.cell? ⟨gx, 0, none⟩ = some (.int .i64 (xa : Int)) := fun z => (K1.out.ext z.h).cell 0
      clear hl8 x0 x1 HFa HFb gml
      rcases hv8 with ⟨rfl, hno⟩ | ⟨r, hr, e, rfl⟩
      · have HNO : Hid (∀ r ∈ T, r.i ≠ xa) := fun r hr e => hno r hr (by omega)
        clear hno
        refine wp_region_ext mixedS (by kernel_rfl) ?_
        repeat (first
          | (refine wpQuiet_look HL8.out rfl rfl rfl ?_; simp only [List.set_cons_succ, List.set_cons_zero])
          | go_big_quiet_step (fail))
        refine wpQuiet_nil ?_
        rintro _ ⟨z, rfl⟩
        have ST := Lib.hid (ST.out.ext z.h)
        have K1 := Lib.hid (K1.out.ext z.h)
        clear c8 cx HL8
        generalize z.w = w2 at *
        go_upto_region 9 with fail
        have hcN : ∀ args u, (callFunc 307 args).run Tryz.prog u = .ok (.enter 307 args) u := enters_of Tryz.func307 (by kernel_rfl) rfl
        have hrm : roomM (n : Int) = n := by unfold roomM; have := hn0.out; omega
        have HNW := Lib.hid (fun u => new7_any (n : Int) u)
        rw [hrm] at HNW
        have D8 := (Below.refl w2.heap.size w2).drew
        have RS4 := Lib.hid (ST.out.ext D8)
        have K1 := Lib.hid (K1.out.ext D8)
        refine wp_region_held (S := fun w' => Kept (fun k => k = w.heap.size) w2.drew w') mixedS ?_
        change wpAnyH _ _ _ _ _ _ _ _ w2.drew
        clear D8 ST hrm
        have B4 : Hid (Kept (fun k => k = w.heap.size) w2.drew w2.drew) := Kept.refl _ _
        generalize w2.drew = w4 at *
        have HC1 : Hid (∀ w', Kept (fun k => k = w.heap.size) w4 w' → w'.cell? ⟨gr, 1, none⟩ = some (.map (some w.heap.size))) := fun w' h => (RS4.out.blk.keep (h.block gr RS4.out.blk.lt (blk_ne_map RS4.out.blk RS4.out.rows.at_.map))).cell 1
        have HCX : Hid (∀ w', Kept (fun k => k = w.heap.size) w4 w' → w'.cell? ⟨gx, 0, none⟩ = some (.int .i64 (xa : Int))) := fun w' h => (K1.out.keep (h.block gx K1.out.lt (blk_ne_map K1.out RS4.out.rows.at_.map))).cell 0
        simp only [List.size_toArray, List.length_cons, List.length_nil]
        refine takeV (i := 0) (d := 46) (v := .pointer (some ⟨gr, 0, none⟩)) rfl (by kernel_rfl) (by kernel_rfl) (by kernel_rfl) (fun _ _ _ h => h) rfl (fun _ _ => exMove (v := .pointer (some ⟨gr, 0, none⟩)) rfl) B4.out ?_
        simp only [Act.put, List.setIfInBounds_toArray, List.set_cons_zero, List.set_cons_succ]
        refine takeV (i := 1) (d := 47) (v := .pointer (some ⟨gr, 0, none⟩)) rfl (by kernel_rfl) (by kernel_rfl) (by kernel_rfl) (fun _ _ _ h => h) rfl (fun _ _ => exNil rfl) B4.out ?_
        simp only [Act.put, List.setIfInBounds_toArray, List.set_cons_zero, List.set_cons_succ]
        refine takeV (i := 2) (d := 48) (v := .pointer (some ⟨gr, 1, none⟩)) rfl (by kernel_rfl) (by kernel_rfl) (by kernel_rfl) (fun _ _ _ h => h) rfl (fun w' _ => exField rfl (fieldRel1 gr w')) B4.out ?_
        simp only [Act.put, List.setIfInBounds_toArray, List.set_cons_zero, List.set_cons_succ]
        refine takeV (i := 3) (d := 49) (v := .map (some w.heap.size)) rfl (by kernel_rfl) (by kernel_rfl) (by kernel_rfl) (fun _ _ _ h => h) rfl (fun w' h => exLoad rfl (loadMapM gr 1 w' w.heap.size (HC1.out w' h))) B4.out ?_
        simp only [Act.put, List.setIfInBounds_toArray, List.set_cons_zero, List.set_cons_succ]
        refine takeV (i := 4) (d := 50) (v := .pointer (some ⟨gx, 0, none⟩)) rfl (by kernel_rfl) (by kernel_rfl) (by kernel_rfl) (fun _ _ _ h => h) rfl (fun w' _ => exIndex rfl rfl (indexS2 gx w')) B4.out ?_
        simp only [Act.put, List.setIfInBounds_toArray, List.set_cons_zero, List.set_cons_succ]
        refine takeV (i := 5) (d := 51) (v := .int .i64 (xa : Int)) rfl (by kernel_rfl) (by kernel_rfl) (by kernel_rfl) (fun _ _ _ h => h) rfl (fun w' h => exLoad rfl (loadIntC gx 0 w' (xa : Int) (HCX.out w' h))) B4.out ?_
        simp only [Act.put, List.setIfInBounds_toArray, List.set_cons_zero, List.set_cons_succ]
        refine takeV (i := 6) (d := 52) (v := .int .i64 (n : Int)) rfl (by kernel_rfl) (by kernel_rfl) (by kernel_rfl) (fun _ _ _ h => h) rfl (fun _ _ => exMove (v := .int .i64 (n : Int)) rfl) B4.out ?_
        simp only [Act.put, List.setIfInBounds_toArray, List.set_cons_zero, List.set_cons_succ]
        refine wpAnyH_all (rs := [7]) (by kernel_rfl) (by simp) ?_
        intro i hi
        simp only [List.mem_cons, List.not_mem_nil, or_false] at hi
        subst hi
        refine wpOp_of rfl rfl (wp_called (args := #[.int .i64 (n : Int)]) hcN (by simp only [List.map_toArray, List.map_cons, List.map_nil]; rfl) (HNW.out w4) ?_)
        rintro e w9 ⟨g, gw, rfl, hm, hg, hgw, b9⟩
        refine ⟨_, rfl, B4.out.then b9, ?_⟩
        simp only [Act.put, List.setIfInBounds_toArray, List.set_cons_zero, List.set_cons_succ]
        have RS9 := Lib.hid (RS4.out.ext b9)
        have K9 := Lib.hid (K1.out.ext b9)
        have B9 := Lib.hid (B4.out.then b9)
        have MN := Lib.hid hm
        have hgg : Hid (w4.heap.size ≤ g ∧ w4.heap.size ≤ gw) := ⟨hg, hgw⟩
        clear hm hg hgw
        refine wpAnyH_all (rs := [8]) (by kernel_rfl) (by simp) ?_
        intro i hi
        simp only [List.mem_cons, List.not_mem_nil, or_false] at hi
        subst hi
        obtain ⟨o, hrun, hrows⟩ := RS9.out.rows.at_.add hxn.out hn0.out HNO.out MN.out (CleanW.zero n) (fun r hr => ⟨by have := RS4.out.rows.at_.row r hr; have := this.lt.1; have := hgg.out.1; omega, by have := RS4.out.rows.at_.row r hr; have := this.lt.2; have := hgg.out.2; omega⟩)
        refine wpOp_of rfl rfl (wp_mapputted rfl rfl rfl hrun ?_)
        refine ⟨Kept.setBlock (F := fun k => k = w.heap.size) B9.out (.inl rfl) o, ?_⟩
        have KB := Lib.hid (Kept.setBlock (F := fun k => k = w.heap.size) (Kept.refl _ w9) (.inl rfl) o)
        have SA := Lib.hid (RS9.out.mapped hrows (fun r hr => by rcases List.mem_append.1 hr with hr | hr; exact RS9.out.rows.ge r hr; rw [List.mem_singleton] at hr; subst hr; have h1 := RS4.out.below.size; have h2 := hgg.out; exact ⟨by show w.heap.size ≤ g; omega, by show w.heap.size ≤ gw; omega⟩) KB.out)
        have K10 := Lib.hid (K9.out.keep (KB.out.block gx K9.out.lt (blk_ne_map K9.out RS9.out.rows.at_.map)))
        clear hrun hrows B9 RS9 MN K9 KB RS4 HC1 HCX HNW HNO K1
        generalize setBlock w9 w.heap.size o = w10 at *
        refine wpAnyH_done (by kernel_rfl) ?_ _
        go_upto_region 10 with fail
        have x0 : w10.cell? ⟨gx, 0, none⟩ = some (.int .i64 (xa : Int)) := K10.out.cell 0
        have hF : F.length ≤ 1000000 := by have := congrArg List.length FI; simp at this; omega
        go_upto_region 11 with (at_builtin; refine wpList_pushF intSlH SA.out.own [.int .i64 (xa : Int)] rfl (by simp [Value.oneCell']) SA.out.below.size (by omega) (by unfold maxLen; omega) (by rfl) (by rfl) (by rfl) ?_; intro v10 w11 own10 k10 _)
        have SB := Lib.hid (SA.out.pushed own10 k10)
        have K11 := Lib.hid (K10.out.keep (k10.block gx K10.out.lt fun e => own_ne_blk SA.out.own K10.out (by decide) e rfl))
        have RELb : Hid (relT (T ++ [⟨xa, g, gw, zeroW n⟩]) = memL (L.take k)) := by
          funext a b
          rw [relT_snoc, zeroW_bit, Bool.and_false, Bool.or_false, REL.out]
        have FIb : (T ++ [(⟨xa, g, gw, zeroW n⟩ : Row7)]).map (·.i) = F ++ [xa] := by rw [List.map_append, FI]; rfl
        have hr : (⟨xa, g, gw, zeroW n⟩ : Row7) ∈ T ++ [⟨xa, g, gw, zeroW n⟩] := by simp
        have hri : (⟨xa, g, gw, zeroW n⟩ : Row7).i = xa := rfl
        have hTb : (T ++ [(⟨xa, g, gw, zeroW n⟩ : Row7)]).length ≤ k + 1 := by simp; omega
        clear x0 own10 k10 SA K10 REL FI hTk hF
        generalize (⟨xa, g, gw, zeroW n⟩ : Row7) = r at *
        generalize T ++ [r] = Tb at *
        go_upto_region 11 with fail
        obtain ⟨v11, hl11, hv11⟩ := SB.out.rows.at_.look (xa : Int) (by have := hxl.out; omega)
        have hv11' : v11 = .pointer (some ⟨r.g, 0, none⟩) := by
          rcases hv11 with ⟨_, hno⟩ | ⟨s, hs, e, rfl⟩
          · exact absurd (by rw [hri]) (hno r hr)
          · obtain rfl := SB.out.rows.at_.one hs hr (by omega)
            rfl
        subst hv11'
        have HL11 : Hid (∀ w' : World, (∃ k, w' = w11.drewN k) → (Instr.lookup 394 (.map (some w.heap.size)) (.int .i64 (xa : Int)) false).run Tryz.prog w' = .ok (.pointer (some ⟨r.g, 0, none⟩)) w') := by
          rintro _ ⟨k, rfl⟩; exact hl11 _ rfl
        clear hl11 hv11
        have c11 := SB.out.cellM
        have x0 : w11.cell? ⟨gx, 0, none⟩ = some (.int .i64 (xa : Int)) := K11.out.cell 0
        have x1 : w11.cell? ⟨gx, 1, none⟩ = some (.int .i64 (xb : Int)) := K11.out.cell 1
        refine wp_region_drawn 9 (by kernel_rfl) (by kernel_rfl) ?_
        simp only [List.take_succ_cons, List.take_zero, List.drop_succ_cons, List.drop_zero]
        repeat (first
          | (refine wpQuiet_look HL11.out rfl rfl rfl ?_; simp only [List.set_cons_succ, List.set_cons_zero])
          | go_big_quiet_step (fail))
        refine wpQuiet_nil ?_
        rintro _ ⟨nq, rfl⟩
        have S11 := Lib.hid (SB.out.ext (below_drewN (Below.refl _ _) nq))
        clear HL11 c11 x0 x1 SB K11
        generalize w11.drewN nq = w11 at *
        go_wp2_with fail
        refine (put7_any (S11.out.rows.at_.row r hr) (xb : Int)).mono ?_
        rintro e w12 ⟨rfl, hm12, hk12⟩
        obtain ⟨hr12, hrel12⟩ := S11.out.rows.putted hr hbn.out hm12 hk12
        have S12 := Lib.hid (S11.out.wrote hr hr12 hk12)
        have R12 : Hid (relT (updT Tb r.i (putM n r.ws (xb : Int))) = memL (L.take (k + 1))) := by
          funext a b
          rw [hrel12, RELb.out, hLt.out, memL_snoc, hri]
        have I12 := updT_i (Tb) r.i (putM n r.ws (xb : Int))
        clear hm12 hk12 hr12 hrel12 S11
        generalize updT (Tb) r.i (putM n r.ws (xb : Int)) = T12 at *
        go_wp2_with fail
        go_roundw
        case rel => exact ⟨k + 1, T12, _, by omega, by have := congrArg List.length I12; simp at this; omega, by go_num, by rw [I12]; exact FIb, S12.out, R12.out⟩
        case measure => simp [intOf]; omega
      · have hri : r.i = xa := by omega
        refine wp_region_ext mixedS (by kernel_rfl) ?_
        repeat (first
          | (refine wpQuiet_look HL8.out rfl rfl rfl ?_; simp only [List.set_cons_succ, List.set_cons_zero])
          | go_big_quiet_step (fail))
        refine wpQuiet_nil ?_
        rintro _ ⟨z, rfl⟩
        have ST := Lib.hid (ST.out.ext z.h)
        have K1 := Lib.hid (K1.out.ext z.h)
        clear c8 cx HL8
        generalize z.w = w2 at *
        have RELb := REL
        clear REL e
        go_upto_region 11 with fail
        obtain ⟨v11, hl11, hv11⟩ := ST.out.rows.at_.look (xa : Int) (by have := hxl.out; omega)
        have hv11' : v11 = .pointer (some ⟨r.g, 0, none⟩) := by
          rcases hv11 with ⟨_, hno⟩ | ⟨s, hs, e, rfl⟩
          · exact absurd (by rw [hri]) (hno r hr)
          · obtain rfl := ST.out.rows.at_.one hs hr (by omega)
            rfl
        subst hv11'
        have HL11 : Hid (∀ w' : World, (∃ k, w' = w2.drewN k) → (Instr.lookup 394 (.map (some w.heap.size)) (.int .i64 (xa : Int)) false).run Tryz.prog w' = .ok (.pointer (some ⟨r.g, 0, none⟩)) w') := by
          rintro _ ⟨k, rfl⟩; exact hl11 _ rfl
        clear hl11 hv11
        have c11 := ST.out.cellM
        have x0 : w2.cell? ⟨gx, 0, none⟩ = some (.int .i64 (xa : Int)) := K1.out.cell 0
        have x1 : w2.cell? ⟨gx, 1, none⟩ = some (.int .i64 (xb : Int)) := K1.out.cell 1
        refine wp_region_drawn 9 (by kernel_rfl) (by kernel_rfl) ?_
        simp only [List.take_succ_cons, List.take_zero, List.drop_succ_cons, List.drop_zero]
        repeat (first
          | (refine wpQuiet_look HL11.out rfl rfl rfl ?_; simp only [List.set_cons_succ, List.set_cons_zero])
          | go_big_quiet_step (fail))
        refine wpQuiet_nil ?_
        rintro _ ⟨nq, rfl⟩
        have S11 := Lib.hid (ST.out.ext (below_drewN (Below.refl _ _) nq))
        clear HL11 c11 x0 x1 ST K1
        generalize w2.drewN nq = w11 at *
        go_wp2_with fail
        refine (put7_any (S11.out.rows.at_.row r hr) (xb : Int)).mono ?_
        rintro e w12 ⟨rfl, hm12, hk12⟩
        obtain ⟨hr12, hrel12⟩ := S11.out.rows.putted hr hbn.out hm12 hk12
        have S12 := Lib.hid (S11.out.wrote hr hr12 hk12)
        have R12 : Hid (relT (updT T r.i (putM n r.ws (xb : Int))) = memL (L.take (k + 1))) := by
          funext a b
          rw [hrel12, RELb.out, hLt.out, memL_snoc, hri]
        have I12 := updT_i (T) r.i (putM n r.ws (xb : Int))
        clear hm12 hk12 hr12 hrel12 S11
        generalize updT (T) r.i (putM n r.ws (xb : Int)) = T12 at *
        go_wp2_with fail
        go_roundw
        case rel => exact ⟨k + 1, T12, _, by omega, by have := congrArg List.length I12; simp at this; omega, by go_num, by rw [I12]; exact FI, S12.out, R12.out⟩
        case measure => simp [intOf]; omega
    · have hk' : k = L.length := by omega
      subst hk'
      have hlk : ¬ ((L.length : Int) < (L.length : Int)) := by omega
      rw [List.take_length] at REL
      have HFF : Hid (∀ a b, memL L a b = true → a ∈ F) := fun a b h => by
        rw [← REL.out] at h
        unfold relT at h
        obtain ⟨r, hr, h2⟩ := List.any_eq_true.1 h
        simp only [Bool.and_eq_true, beq_iff_eq] at h2
        rw [← FI, ← h2.1]
        exact List.mem_map.2 ⟨r, hr, rfl⟩
      have hF : F.length ≤ 1000000 := by have := congrArg List.length FI; simp at this; omega
      have hFn : Hid (∀ i ∈ F, i < n) := fun i hi => by
        rw [← FI] at hi
        obtain ⟨r, hr, rfl⟩ := List.mem_map.1 hi
        exact ST.out.rows.at_.lt r hr
      obtain ⟨AF, cF, rfl, _, _⟩ := Sl.of_own ST.out.own
      have RT0 : Hid (relT T = cloK F (F.take 0) (memL L)) := REL.out
      clear REL hTk S
      go_wp2_with fail
      go_loopw [72] (fun i w2 => ∃ (p : Nat) (T : List Row7), p ≤ F.length ∧ i = .int .i64 p ∧ T.map (·.i) = F ∧ Hid (St8 w w2 gr n T F (.slice AF F.length cF)) ∧ Hid (relT T = cloK F (F.take p) (memL L))) (fun i _ => F.length - (intOf i).toNat)
      case atStart => exact ⟨0, T, by omega, rfl, FI, ST.out, RT0.out⟩
      case round =>
        clear RT0 ST FI
        obtain ⟨p, T, hp, rfl, FI, ST, RT⟩ := hrel
        have hp0 : (0 : Int) ≤ (p : Int) := by omega
        by_cases hpl : p < F.length
        · have hpk : (p : Int) < (F.length : Int) := by omega
          obtain ⟨A2, c2, e2, _, sl⟩ := Sl.of_own ST.out.own
          injection e2 with e3 _ e4
          subst e3 e4
          obtain ⟨b, o, u, rfl, hb, hu, hcell⟩ := sl.at_ hpl
          have hu' : u = .int .i64 (F[p] : Int) := by
            unfold encN at hu
            rw [List.getElem?_map, List.getElem?_eq_getElem hpl] at hu
            exact (Option.some.inj hu).symm
          subst hu'
          have hFt : Hid (F.take (p + 1) = F.take p ++ [F[p]]) := by rw [Hid, List.take_add_one, List.getElem?_eq_getElem hpl]; rfl
          have hkn : Hid (F[p] < n) := hFn.out _ (List.getElem_mem hpl)
          have hkF : Hid (F[p] ∈ F) := List.getElem_mem hpl
          generalize F[p] = kk at *
          have RT0 : Hid (relT T = sweep (F.take 0) (cloK F (F.take p) (memL L)) kk) := by rw [List.take_zero, sweep_nil]; exact RT.out
          clear hu sl RT
          go_wp2_with fail
          go_loopw [78] (fun i w3 => ∃ (q : Nat) (T : List Row7), q ≤ F.length ∧ i = .int .i64 q ∧ T.map (·.i) = F ∧ Hid (St8 w w3 gr n T F (.slice (some ⟨b, o, none⟩) F.length cF)) ∧ Hid (relT T = sweep (F.take q) (cloK F (F.take p) (memL L)) kk)) (fun i _ => F.length - (intOf i).toNat)
          case atStart => exact ⟨0, T, by omega, rfl, FI, ST.out, RT0.out⟩
          case round =>
            clear RT0 ST FI hcell hb
            obtain ⟨q, T, hq, rfl, FI, ST, RT⟩ := hrel
            have hq0 : (0 : Int) ≤ (q : Int) := by omega
            by_cases hql : q < F.length
            · have hqk : (q : Int) < (F.length : Int) := by omega
              obtain ⟨A2, c3, e2, _, sl⟩ := Sl.of_own ST.out.own
              injection e2 with e3 _ e4
              subst e3 e4
              obtain ⟨b', o', u, e5, hb, hu, hcell⟩ := sl.at_ hql
              injection e5 with e5
              injection e5 with e5 e6 _
              subst e5 e6
              have hu' : u = .int .i64 (F[q] : Int) := by
                unfold encN at hu
                rw [List.getElem?_map, List.getElem?_eq_getElem hql] at hu
                exact (Option.some.inj hu).symm
              subst hu'
              have hFq : Hid (F.take (q + 1) = F.take q ++ [F[q]]) := by rw [Hid, List.take_add_one, List.getElem?_eq_getElem hql]; rfl
              have hin : Hid (F[q] < n) := hFn.out _ (List.getElem_mem hql)
              obtain ⟨r, hr, hri⟩ := row_of (T := T) (i := F[q]) (by rw [FI]; exact List.getElem_mem hql)
              obtain ⟨s, hs, hsi⟩ := row_of (T := T) (i := kk) (by rw [FI]; exact hkF.out)
              generalize F[q] = ii at *
              subst hri hsi
              clear hu sl hb
              have LK := Lib.hid (fun t ht => ST.out.rows.at_.lookRow (r := t) ht hn0.out)
              have HR := Lib.hid ((LK.out r hr) _ rfl)
              have HH := Lib.hid (has7_any (ST.out.rows.at_.row r hr) (s.i : Int))
              rw [hasM_clean (ST.out.rows.at_.cl r hr), ← ST.out.rows.at_.rel hr] at HH
              have c1 := ST.out.cellM
              cases hrs : relT T r.i s.i
              · rw [hrs] at HH
                have RT2 : Hid (relT T = sweep (F.take (q + 1)) (cloK F (F.take p) (memL L)) s.i) := by
                  rw [Hid, hFq.out, sweep_snoc, ← RT.out, orRow_no hrs]
                clear RT hrs LK
                go_wp2_with (refine wpList_lookG (by rfl) (by rfl) (by rfl) HR.out ?_)
                refine HH.out.mono ?_
                rintro e w5 ⟨rfl, rfl⟩
                go_wp2_with fail
                go_roundw
                case rel => exact ⟨q + 1, T, by omega, by go_num, FI, ST.out, RT2.out⟩
                case measure => simp [intOf]; omega
              · rw [hrs] at HH
                go_wp2_with (refine wpList_lookG (by rfl) (by rfl) (by rfl) HR.out ?_)
                refine HH.out.mono ?_
                rintro e w3 ⟨rfl, rfl⟩
                go_upto_region 20 with fail
                have HL1 : Hid (∀ w' : World, (∃ k, w' = wr.drewN k) → (Instr.lookup 394 (.map (some w.heap.size)) (.int .i64 (r.i : Int)) false).run Tryz.prog w' = .ok (.pointer (some ⟨r.g, 0, none⟩)) w') := by
                  rintro _ ⟨k, rfl⟩; exact LK.out r hr _ rfl
                have HL2 : Hid (∀ w' : World, (∃ k, w' = wr.drewN k) → (Instr.lookup 394 (.map (some w.heap.size)) (.int .i64 (s.i : Int)) false).run Tryz.prog w' = .ok (.pointer (some ⟨s.g, 0, none⟩)) w') := by
                  rintro _ ⟨k, rfl⟩; exact LK.out s hs _ rfl
                clear HR HH LK
                refine wp_region_drawn 12 (by kernel_rfl) (by kernel_rfl) ?_
                simp only [List.take_succ_cons, List.take_zero, List.drop_succ_cons, List.drop_zero]
                repeat (first
                  | (refine wpQuiet_look HL1.out rfl rfl rfl ?_; simp only [List.set_cons_succ, List.set_cons_zero])
                  | (refine wpQuiet_look HL2.out rfl rfl rfl ?_; simp only [List.set_cons_succ, List.set_cons_zero])
                  | go_big_quiet_step (fail))
                refine wpQuiet_nil ?_
                rintro _ ⟨nq, rfl⟩
                have S11 := Lib.hid (ST.out.ext (below_drewN (Below.refl _ _) nq))
                clear HL1 HL2 c1 hcell ST
                generalize wr.drewN nq = w11 at *
                have HO : Hid (Calls Tryz.prog 310 #[.pointer (some ⟨r.g, 0, none⟩), .pointer (some ⟨s.g, 0, none⟩)] w11 (RetOr w11 r.g r.gw n (orW r.ws s.ws n))) := S11.out.rows.at_.or_any hr hs
                go_wp2_with fail
                refine HO.out.mono ?_
                rintro e w12 ⟨bb, rfl, hm12, hk12⟩
                obtain ⟨hr12, hrel12⟩ := S11.out.rows.ored hr hs hm12 hk12 hrs
                have S12 := Lib.hid (S11.out.wrote hr hr12 hk12)
                have RT2 : Hid (relT (updT T r.i (orW r.ws s.ws n)) = sweep (F.take (q + 1)) (cloK F (F.take p) (memL L)) s.i) := by
                  rw [Hid, hrel12, hFq.out, sweep_snoc, ← RT.out]
                have I12 := updT_i T r.i (orW r.ws s.ws n)
                clear hm12 hk12 hr12 hrel12 S11 HO RT
                generalize updT T r.i (orW r.ws s.ws n) = T12 at *
                go_wp2_with fail
                go_roundw
                case rel => exact ⟨q + 1, T12, by omega, by go_num, by rw [I12]; exact FI, S12.out, RT2.out⟩
                case measure => simp [intOf]; omega
            · have hq' : q = F.length := by omega
              subst hq'
              have hqk : ¬ ((F.length : Int) < (F.length : Int)) := by omega
              rw [List.take_length] at RT
              have RT2 : Hid (relT T = cloK F (F.take (p + 1)) (memL L)) := by rw [Hid, hFt.out, cloK_snoc]; exact RT.out
              clear RT
              go_wp2_with fail
              go_roundw
              case rel => exact ⟨p + 1, T, by omega, by go_num, FI, ST.out, RT2.out⟩
              case measure => simp [intOf]; omega
        · have hp' : p = F.length := by omega
          subst hp'
          have hpk : ¬ ((F.length : Int) < (F.length : Int)) := by omega
          rw [List.take_length] at RT
          go_wp2
          go_ret
          refine ⟨gr, relT T, rfl, ⟨hn0.out, w.heap.size, T, ST.out.blk, ST.out.rows.at_, fun _ _ => rfl⟩, fun a b => ?_, hgr.out, ST.out.below⟩
          rw [RT.out]
          refine (clo_iff HFF.out a b).trans ?_
          exact Via.congr fun x y => by unfold memL; simp
end Go.Proofs.YtihggkmjalofiaaGreatDoor

/- Of each thing all that is ahead of it: walked. -/
namespace Go.Proofs.YtihggkmjalofiaaGreatDoor
open Go.RowKit

theorem made1 {z : Value} (hz : z.cells = #[z]) (k : Nat) : (madeCells z.cells (k * 1)).toList = List.replicate k z := by
  apply List.ext_getElem?
  intro j
  simp only [madeCells, Nat.mul_one, hz]
  rcases Nat.lt_or_ge j k with h | h
  · simp [h, Nat.mod_one]
  · rw [List.getElem?_eq_none (by simpa using h), List.getElem?_eq_none (by simpa using h)]
theorem roomM_nat {n : Nat} (h : n ≤ 65536) : roomM (n : Int) = n := by unfold roomM; omega
theorem putM_bit {n : Nat} {ws : List Nat} (hok : WsOk n ws) {b : Nat} (hb : b < n) (y : Nat) : bitAt (putM n ws (b : Int)) y = (bitAt ws y || decide (b = y)) := by
  unfold putM newM
  rw [decide_eq_true (show (0 : Int) ≤ (b : Int) by omega), decide_eq_true (show (b : Int) < (n : Int) by omega), Int.toNat_natCast]
  cases hbit : bitAt ws b
  · simp only [Bool.not_false, Bool.and_self, if_true]
    exact bit_putW hok hb y
  · simp only [Bool.not_true, Bool.and_false, Bool.false_eq_true, if_false]
    by_cases hy : b = y
    · subst hy; rw [hbit]; rfl
    · rw [decide_eq_false hy, Bool.or_false]
theorem putM_clean {n : Nat} {ws : List Nat} (hok : WsOk n ws) (hc : CleanW n ws) {b : Nat} (hb : b < n) : CleanW n (putM n ws (b : Int)) := fun i hi => by
  rw [putM_bit hok hb, hc i hi, decide_eq_false (by omega)]; rfl
/-- the sets' pointers, as many as there are so far -/
def encP7 (M : List Row7) (n : Nat) : List Value := (M.map fun r => Value.pointer (some ⟨r.g, 0, none⟩)) ++ List.replicate (n - M.length) (.pointer none)
theorem encP7_put {M : List Row7} {n : Nat} (r : Row7) (h : M.length < n) : (encP7 M n).set M.length (.pointer (some ⟨r.g, 0, none⟩)) = encP7 (M ++ [r]) n := by
  unfold encP7
  obtain ⟨m, hm⟩ : ∃ m, n - M.length = m + 1 := ⟨n - M.length - 1, by omega⟩
  have hm2 : n - (M ++ [r]).length = m := by rw [List.length_append]; simp; omega
  rw [hm, hm2, List.set_append_right _ _ (by simp)]
  simp [List.replicate_succ]
theorem encP7_new {M : List Row7} {n : Nat} (h : M.length < n) : (encP7 M n)[M.length]? = some (.pointer none) := by
  unfold encP7
  rw [List.getElem?_append_right (by rw [List.length_map]; exact Nat.le_refl _), List.length_map, Nat.sub_self, List.getElem?_replicate, if_pos (by omega)]
theorem encP7_get {M : List Row7} {n k : Nat} {r : Row7} (h : M[k]? = some r) : (encP7 M n)[k]? = some (.pointer (some ⟨r.g, 0, none⟩)) := by
  unfold encP7
  have hk := (List.getElem?_eq_some_iff.1 h).1
  rw [List.getElem?_append_left (by simpa using hk), List.getElem?_map, h]; rfl
/-- a thing's set as it lies -/
structure AhRow (w : World) (B n : Nat) (R : Nat → Nat → Bool) (k : Nat) (r : Row7) : Prop where
  at_ : MaskAt w r.g r.gw n r.ws
  cl : CleanW n r.ws
  bit : ∀ x, x < n → bitAt r.ws x = befR R x k
  ge : B ≤ r.g ∧ B ≤ r.gw
structure AhAt (w : World) (B b n : Nat) (R : Nat → Nat → Bool) (M : List Row7) : Prop where
  own : w.ownsRow B 398 1 (.slice (some ⟨b, 0, none⟩) n n) n (encP7 M n)
  row : ∀ (k : Nat) (r : Row7), M[k]? = some r → AhRow w B n R k r
/-- while one thing's set is filled -/
structure AhMid (w : World) (B b n : Nat) (R : Nat → Nat → Bool) (M : List Row7) (r : Row7) (j : Nat) : Prop where
  own : w.ownsRow B 398 1 (.slice (some ⟨b, 0, none⟩) n n) n (encP7 (M ++ [r]) n)
  row : ∀ (k : Nat) (s : Row7), M[k]? = some s → AhRow w B n R k s
  at_ : MaskAt w r.g r.gw n r.ws
  cl : CleanW n r.ws
  bit : ∀ x, x < n → bitAt r.ws x = (decide (x < j) && befR R x M.length)
  ge : B ≤ r.g ∧ B ≤ r.gw
  ne : ∀ (k : Nat) (s : Row7), M[k]? = some s → s.gw ≠ r.gw
section
variable {w w' : World} {B b n : Nat} {R : Nat → Nat → Bool} {M : List Row7} {r : Row7} {k j : Nat}
theorem AhRow.keep (h : AhRow w B n R k r) (h1 : w'.heap[r.g]? = w.heap[r.g]?) (h2 : w'.heap[r.gw]? = w.heap[r.gw]?) : AhRow w' B n R k r := ⟨h.at_.keep h1 h2, h.cl, h.bit, h.ge⟩
theorem AhAt.ext (h : AhAt w B b n R M) (hb : Below w.heap.size w w') : AhAt w' B b n R M :=
  ⟨own_ext h.own hb, fun k r hr => (h.row k r hr).keep (hb.block _ (h.row k r hr).at_.lt.1) (hb.block _ (h.row k r hr).at_.lt.2)⟩
/-- a write into another set leaves them -/
theorem AhAt.keepW (h : AhAt w B b n R M) {gT gwT : Nat} {ws : List Nat} (hm : MaskAt w gT gwT n ws) (hne : ∀ (k : Nat) (r : Row7), M[k]? = some r → r.gw ≠ gwT) (hk : Kept (fun k => k = gwT) w w') : AhAt w' B b n R M := by
  refine ⟨own_keepF h.own fun k e => hk.block k (h.own.lt k e).2 (own_ne_own h.own hm.own (by decide) e rfl), fun k r hr => ?_⟩
  have hr2 := h.row k r hr
  exact hr2.keep (hk.block _ hr2.at_.lt.1 (own_ne_blk hm.own hr2.at_.blk (by decide) rfl).symm) (hk.block _ hr2.at_.lt.2 (hne k r hr))
theorem AhMid.ext (h : AhMid w B b n R M r j) (hb : Below w.heap.size w w') : AhMid w' B b n R M r j :=
  ⟨own_ext h.own hb, fun k r hr => (h.row k r hr).keep (hb.block _ (h.row k r hr).at_.lt.1) (hb.block _ (h.row k r hr).at_.lt.2), h.at_.ext hb, h.cl, h.bit, h.ge, h.ne⟩
theorem AhMid.skip (h : AhMid w B b n R M r j) (hb : befR R j M.length = false) : AhMid w B b n R M r (j + 1) :=
  ⟨h.own, h.row, h.at_, h.cl, fun x hx => by
    rw [h.bit x hx]
    by_cases e : x = j
    · subst e; rw [hb, Bool.and_false, Bool.and_false]
    · congr 1; rw [decide_eq_decide]; omega, h.ge, h.ne⟩
theorem AhMid.put (h : AhMid w B b n R M r j) (hj : j < n) (hb : befR R j M.length = true) (hm : MaskAt w' r.g r.gw n (putM n r.ws (j : Int))) (hk : Kept (fun k => k = r.gw) w w') : AhMid w' B b n R M ⟨r.i, r.g, r.gw, putM n r.ws (j : Int)⟩ (j + 1) := by
  refine ⟨?_, fun k s hs => ?_, hm, putM_clean h.at_.ok h.cl hj, fun x hx => ?_, h.ge, h.ne⟩
  · have e : encP7 (M ++ [⟨r.i, r.g, r.gw, putM n r.ws (j : Int)⟩]) n = encP7 (M ++ [r]) n := by unfold encP7; simp
    rw [e]
    exact own_keepF h.own fun k e => hk.block k (h.own.lt k e).2 (own_ne_own h.own h.at_.own (by decide) e rfl)
  · have hs2 := h.row k s hs
    exact hs2.keep (hk.block _ hs2.at_.lt.1 (own_ne_blk h.at_.own hs2.at_.blk (by decide) rfl).symm) (hk.block _ hs2.at_.lt.2 (h.ne k s hs))
  · show bitAt (putM n r.ws (j : Int)) x = _
    rw [putM_bit h.at_.ok hj, h.bit x hx]
    by_cases e : j = x
    · subst e; rw [hb]; simp
    · rw [decide_eq_false e, Bool.or_false]
      congr 1; rw [decide_eq_decide]; omega
theorem AhMid.done (h : AhMid w B b n R M r n) : AhAt w B b n R (M ++ [r]) := by
  refine ⟨h.own, fun k s hs => ?_⟩
  rcases Nat.lt_or_ge k M.length with hk | hk
  · rw [List.getElem?_append_left hk] at hs
    exact h.row k s hs
  · rw [List.getElem?_append_right hk] at hs
    obtain ⟨hk2, e⟩ := List.getElem?_eq_some_iff.1 hs
    have hk3 : k = M.length := by simp at hk2; omega
    subst hk3
    have e2 : s = r := by rw [← e]; simp
    subst e2
    exact ⟨h.at_, h.cl, fun x hx => by rw [h.bit x hx, decide_eq_true hx, Bool.true_and], h.ge⟩
theorem AhAt.len (h : AhAt w B b n R M) : M.length ≤ n := by
  have := h.own.1
  unfold encP7 at this
  rw [List.length_append, List.length_map, List.length_replicate] at this
  omega
end
def RetAh (w : World) (n : Nat) (R : Nat → Nat → Bool) (e : Ending) (w' : World) : Prop :=
  ∃ b M, e = .returned (.slice (some ⟨b, 0, none⟩) n n) ∧ M.length = n ∧ AhAt w' w.heap.size b n R M ∧ Below w.heap.size w w'
set_option maxRecDepth 100000 in
set_option maxHeartbeats 4000000 in
theorem ahead9_any {w : World} {g n : Nat} {R : Nat → Nat → Bool} (h : RelAt w g n R) : Calls Tryz.prog 311 #[.pointer (some ⟨g, 0, none⟩)] w (RetAh w n R) := by
  have hn0 := h.1
  have hinfo : (Tryz.prog.info? 398).map (fun i => (i.zero, i.size, i.bytes)) = some (some (.pointer none), 1, 8) := by kernel_rfl
  obtain ⟨i, hi, hzz⟩ := Option.map_eq_some_iff.1 hinfo
  simp only [Prod.mk.injEq] at hzz
  obtain ⟨hz, hsz, hby⟩ := hzz
  clear hinfo
  have H := Lib.hid h
  have HL := Lib.hid (len8_any h)
  clear h
  go_enter Tryz.func311, Tryz.ntmps311
  go_wp2_with fail
  refine HL.out.mono ?_
  rintro e w1 ⟨rfl, rfl⟩
  go_wp2_with (at_make; refine wpList_make_full _ rfl _ _ 401 rfl w.heap.size 398 i (.pointer none) 1 Tryz.underlying401 hi hz hsz _ _ _ _ n (by rfl) (by rfl) rfl rfl (by rw [hby]; omega) (by unfold maxLen; omega) (Nat.le_refl _) ?_; intro w1 own1 gr1)
  rw [made1 rfl] at own1
  have B1 : Hid (Below w.heap.size w w1) := ⟨gr1.os, gr1.tape, gr1.output, gr1.size, fun k hk => gr1.block k hk (by simp)⟩
  have A0 : Hid (AhAt w1 w.heap.size w.heap.size n R []) := ⟨own1, fun k r hr => by simp at hr⟩
  clear own1 gr1 hi hz hsz hby HL
  obtain ⟨b, hgb⟩ : ∃ g, g = w.heap.size := ⟨_, rfl⟩
  rw [← hgb] at A0 ⊢
  replace hgb := Lib.hid hgb
  go_loopw [11] (fun v wr => ∃ (i : Nat) (M : List Row7), i ≤ n ∧ v = .int .i64 i ∧ M.length = i ∧ Hid (AhAt wr b b n R M) ∧ Hid (Below w.heap.size w wr)) (fun v _ => n - (intOf v).toNat)
  case atStart => exact ⟨0, [], by omega, rfl, rfl, A0.out, B1.out⟩
  case round =>
    clear A0 B1
    obtain ⟨i, M, hin, rfl, hM, A, BB⟩ := hrel
    have hi0 : (0 : Int) ≤ (i : Int) := by omega
    by_cases hlt : i < n
    · have hlk : (i : Int) < (n : Int) := by omega
      have HL := Lib.hid (len8_any (H.out.ext BB.out))
      have HN : Hid (Calls Tryz.prog 307 #[.int .i64 (n : Int)] wr (RetMask wr n (zeroW n))) := by
        have := new7_any (n : Int) wr
        rwa [roomM_nat hn0] at this
      go_wp2_with fail
      refine HL.out.mono ?_
      rintro e w2 ⟨rfl, rfl⟩
      go_wp2_with fail
      refine HN.out.mono ?_
      rintro e w2 ⟨g2, gw2, rfl, hm, hg1, hg2, b2⟩
      have A2 := Lib.hid (A.out.ext b2)
      have BB2 := Lib.hid (BB.out.trans (b2.mono BB.out.size))
      have hc : w2.cell? ⟨b, i, none⟩ = some (.pointer none) := by
        rw [A2.out.own.cellAt i (by omega), ← hM]
        exact encP7_new (by omega)
      have hf : w2.frozen? ⟨b, i, none⟩ = false := A2.out.own.frozenAt _
      have M3 : Hid (AhMid (w2.setCell ⟨b, i, none⟩ (.pointer (some ⟨g2, 0, none⟩))) b b n R M ⟨i, g2, gw2, zeroW n⟩ 0) := by
        have hset := (A2.out.own.stored i (.pointer (some ⟨g2, 0, none⟩))).1
        have hKb : Kept (fun k => k = b) w2 (w2.setCell ⟨b, i, none⟩ (.pointer (some ⟨g2, 0, none⟩))) := (Kept.refl (fun k => k = b) w2).setCell (p := ⟨b, i, none⟩) (.inl rfl) _
        have e : (encP7 M n).set i (.pointer (some ⟨g2, 0, none⟩)) = encP7 (M ++ [⟨i, g2, gw2, zeroW n⟩]) n := by
          rw [← hM]; exact encP7_put ⟨M.length, g2, gw2, zeroW n⟩ (by omega)
        rw [e] at hset
        have hbs : b ≤ wr.heap.size := by rw [hgb.out]; exact BB.out.size
        refine ⟨hset, fun k s hs => ?_, ?_, CleanW.zero n, fun x hx => by rw [zeroW_bit]; simp, ⟨Nat.le_trans hbs hg1, Nat.le_trans hbs hg2⟩, fun k s hs => ?_⟩
        · have h2 := A2.out.row k s hs
          exact h2.keep (hKb.block _ h2.at_.lt.1 (own_ne_blk A2.out.own h2.at_.blk (by decide) rfl).symm) (hKb.block _ h2.at_.lt.2 (own_ne_own h2.at_.own A2.out.own (by decide) rfl rfl))
        · exact hm.keep (hKb.block _ hm.lt.1 (own_ne_blk A2.out.own hm.blk (by decide) rfl).symm) (hKb.block _ hm.lt.2 (own_ne_own hm.own A2.out.own (by decide) rfl rfl))
        · have h2 := (A.out.row k s hs).at_.lt.2
          show s.gw ≠ gw2
          omega
      have BB3 : Hid (Below w.heap.size w (w2.setCell ⟨b, i, none⟩ (.pointer (some ⟨g2, 0, none⟩)))) := BB2.out.setCell (p := ⟨b, i, none⟩) (by rw [← hgb.out]; exact Nat.le_refl _) _
      clear hm hg1 hg2 b2 A2 BB2 A BB HL HN
      go_wp2_with fail
      clear hc hf
      generalize w2.setCell ⟨b, i, none⟩ (.pointer (some ⟨g2, 0, none⟩)) = w3 at *
      go_loopw [22] (fun v wr => ∃ (j : Nat) (ws : List Nat), j ≤ n ∧ v = .int .i64 j ∧ Hid (AhMid wr b b n R M ⟨i, g2, gw2, ws⟩ j) ∧ Hid (Below w.heap.size w wr)) (fun v _ => n - (intOf v).toNat)
      case atStart => exact ⟨0, _, by omega, rfl, M3.out, BB3.out⟩
      case round =>
        clear M3 BB3
        obtain ⟨j, ws, hjn, rfl, MM, BB⟩ := hrel
        have hj0 : (0 : Int) ≤ (j : Int) := by omega
        by_cases hjl : j < n
        · have hjk : (j : Int) < (n : Int) := by omega
          have HB := Lib.hid (before8_any (H.out.ext BB.out) j i (by omega) (by omega))
          cases hb : befR R j i
          · rw [hb] at HB
            have M2 := Lib.hid (MM.out.skip (by rw [hM]; exact hb))
            go_wp2_with fail
            refine HB.out.mono ?_
            rintro e w4 ⟨rfl, rfl⟩
            go_wp2_with fail
            go_roundw
            case rel => exact ⟨j + 1, ws, by omega, by go_num, M2.out, BB.out⟩
            case measure => simp [intOf]; omega
          · rw [hb] at HB
            have HP := Lib.hid (put7_any MM.out.at_ (j : Int))
            have hc : wr.cell? ⟨b, i, none⟩ = some (.pointer (some ⟨g2, 0, none⟩)) := by
              rw [MM.out.own.cellAt i (by omega)]
              exact encP7_get (r := ⟨i, g2, gw2, ws⟩) (by rw [← hM]; simp)
            go_wp2_with fail
            refine HB.out.mono ?_
            rintro e w4 ⟨rfl, rfl⟩
            go_wp2_with fail
            refine HP.out.mono ?_
            rintro e w4 ⟨rfl, hm4, hk4⟩
            have M2 := Lib.hid (MM.out.put hjl (by rw [hM]; exact hb) hm4 hk4)
            have B2 : Hid (Below w.heap.size w w4) := BB.out.trans (hk4.below (fun k e => by rw [e, ← hgb.out]; exact MM.out.ge.2) BB.out.size)
            clear hm4 hk4 MM BB HB HP hc
            go_wp2_with fail
            go_roundw
            case rel => exact ⟨j + 1, _, by omega, by go_num, M2.out, B2.out⟩
            case measure => simp [intOf]; omega
        · have hjk : ¬ (j : Int) < (n : Int) := by omega
          obtain rfl : j = n := by omega
          have A2 := Lib.hid MM.out.done
          go_wp2_with fail
          go_roundw
          case rel => exact ⟨i + 1, M ++ [Row7.mk i g2 gw2 ws], by omega, by go_num, by rw [List.length_append, hM]; rfl, A2.out, BB.out⟩
          case measure => simp [intOf]; omega
    · have hlk : ¬ (i : Int) < (n : Int) := by omega
      go_wp2
      go_ret
      exact ⟨b, M, rfl, by omega, by rw [← hgb.out]; exact A.out, BB.out⟩
end Go.Proofs.YtihggkmjalofiaaGreatDoor

/- The document's relation: a thing in a list; steps that fit: walked. -/
namespace Go.Proofs.YtihggkmjalofiaaGreatDoor
open Go.RowKit

/-- the document's relation, as a value -/
def rel8V (n : Nat) (A : Option Addr) (m c : Nat) : Array Value := #[.int .i64 (n : Int), .slice A m c]
theorem stepSl : SlT Tryz.prog 337 338 2 16 := slT_of Tryz.underlying337 (z := .agg #[.int .i64 0, .int .i64 0]) (by kernel_rfl) rfl (by omega)
def RetR8 (w : World) (n : Nat) (L : List (Nat × Nat)) (e : Ending) (w' : World) : Prop :=
  ∃ A c, e = .returned (.agg (rel8V n A L.length c)) ∧ Sl w' w'.heap.size 2 A L.length (L.flatMap encS) ∧ Below w.heap.size w w'
end Go.Proofs.YtihggkmjalofiaaGreatDoor

/- What lies behind a thing, in the document's relation: plain law; walked. -/
namespace Go.Proofs.YtihggkmjalofiaaGreatDoor
open Go.RowKit

/-- a list of things behind one, not all of them yet -/
structure BehI (L : List (Nat × Nat)) (i : Int) (out : List Nat) : Prop where
  nodup : out.Nodup
  sound : ∀ y ∈ out, 0 ≤ i ∧ ViaL L i.toNat y
  sub : ∀ y ∈ out, ∃ x ∈ L, x.2 = y
theorem BehI.nil (L : List (Nat × Nat)) (i : Int) : BehI L i [] := ⟨List.nodup_nil, by simp, by simp⟩
theorem BehI.len {L : List (Nat × Nat)} {i : Int} {out : List Nat} (h : BehI L i out) : out.length ≤ L.length := by
  have := h.nodup.length_le_of_subset (l₂ := L.map (·.2)) fun y hy => by
    obtain ⟨x, hx, e⟩ := h.sub y hy
    exact List.mem_map.2 ⟨x, hx, e⟩
  rwa [List.length_map] at this
theorem BehI.first {L : List (Nat × Nat)} {i : Int} {out : List Nat} (h : BehI L i out) {x : Nat × Nat} (hx : x ∈ L) (hi : (x.1 : Int) = i) (hn : x.2 ∉ out) : BehI L i (out ++ [x.2]) := by
  refine ⟨List.nodup_append.2 ⟨h.nodup, List.nodup_cons.2 ⟨by simp, List.nodup_nil⟩, fun a ha b hb => ?_⟩, fun y hy => ?_, fun y hy => ?_⟩
  · rw [List.mem_singleton] at hb; subst hb; rintro rfl; exact hn ha
  · rcases List.mem_append.1 hy with hy | hy
    · exact h.sound y hy
    · rw [List.mem_singleton] at hy
      subst hy hi
      exact ⟨by omega, .edge (by rw [Int.toNat_natCast]; exact hx)⟩
  · rcases List.mem_append.1 hy with hy | hy
    · exact h.sub y hy
    · rw [List.mem_singleton] at hy; exact ⟨x, hx, hy.symm⟩
theorem BehI.more {L : List (Nat × Nat)} {i : Int} {out : List Nat} (h : BehI L i out) {x : Nat × Nat} (hx : x ∈ L) (hi : x.1 ∈ out) (hn : x.2 ∉ out) : BehI L i (out ++ [x.2]) := by
  refine ⟨List.nodup_append.2 ⟨h.nodup, List.nodup_cons.2 ⟨by simp, List.nodup_nil⟩, fun a ha b hb => ?_⟩, fun y hy => ?_, fun y hy => ?_⟩
  · rw [List.mem_singleton] at hb; subst hb; rintro rfl; exact hn ha
  · rcases List.mem_append.1 hy with hy | hy
    · exact h.sound y hy
    · rw [List.mem_singleton] at hy
      subst hy
      obtain ⟨h1, h2⟩ := h.sound _ hi
      exact ⟨h1, h2.trans trivial (.edge hx)⟩
  · rcases List.mem_append.1 hy with hy | hy
    · exact h.sub y hy
    · rw [List.mem_singleton] at hy; exact ⟨x, hx, hy.symm⟩
theorem via_closed {L : List (Nat × Nat)} {out : List Nat} (hc : ∀ y ∈ out, ∀ x ∈ L, x.1 = y → x.2 ∈ out) {a b : Nat} (h : ViaL L a b) (ha : ∀ x ∈ L, x.1 = a → x.2 ∈ out) : b ∈ out := by
  unfold ViaL at h
  induction h with
  | edge e => exact ha _ e rfl
  | step e _ _ ih => exact ih (fun x hx hx2 => hc _ (ha _ e rfl) x hx hx2)
theorem BehI.whole {L : List (Nat × Nat)} {i : Int} {out : List Nat} (h : BehI L i out) (h1 : ∀ x ∈ L, (x.1 : Int) = i → x.2 ∈ out) (hc : ∀ y ∈ out, ∀ x ∈ L, x.1 = y → x.2 ∈ out) (y : Nat) : y ∈ out ↔ 0 ≤ i ∧ ViaL L i.toNat y :=
  ⟨h.sound y, fun ⟨h0, hv⟩ => via_closed hc hv fun x hx e => h1 x hx (by omega)⟩
/-- what stands while the first things are looked for -/
def FirstK (L : List (Nat × Nat)) (i : Int) (k : Nat) (out : List Nat) : Prop := ∀ x ∈ L.take k, (x.1 : Int) = i → x.2 ∈ out
def ClosK (L : List (Nat × Nat)) (p : Nat) (out : List Nat) : Prop := ∀ y ∈ out.take p, ∀ x ∈ L, x.1 = y → x.2 ∈ out
theorem FirstK.zero (L : List (Nat × Nat)) (i : Int) (out : List Nat) : FirstK L i 0 out := by intro x hx; simp at hx
theorem ClosK.zero (L : List (Nat × Nat)) (out : List Nat) : ClosK L 0 out := by intro x hx; simp at hx
theorem FirstK.step {L : List (Nat × Nat)} {i : Int} {k : Nat} {out out' : List Nat} (h : FirstK L i k out) (hk : k < L.length) (hs : ∀ y ∈ out, y ∈ out') (hx : (L[k].1 : Int) = i → L[k].2 ∈ out') : FirstK L i (k + 1) out' := by
  intro x hx2 e
  rw [List.take_add_one, List.getElem?_eq_getElem hk] at hx2
  rcases List.mem_append.1 hx2 with h1 | h1
  · exact hs _ (h x h1 e)
  · simp only [Option.toList, List.mem_singleton] at h1
    subst h1; exact hx e
theorem FirstK.more {L : List (Nat × Nat)} {i : Int} {k : Nat} {out : List Nat} (h : FirstK L i k out) (z : Nat) : FirstK L i k (out ++ [z]) := fun x hx e => List.mem_append_left _ (h x hx e)
theorem ClosK.more {L : List (Nat × Nat)} {p : Nat} {out : List Nat} (h : ClosK L p out) (hp : p ≤ out.length) (z : Nat) : ClosK L p (out ++ [z]) := fun y hy x hx e => by
  rw [List.take_append_of_le_length hp] at hy
  exact List.mem_append_left _ (h y hy x hx e)
theorem ClosK.step {L : List (Nat × Nat)} {p y : Nat} {out : List Nat} (h : ClosK L p out) (hp : out[p]? = some y) (hf : FirstK L (y : Int) L.length out) : ClosK L (p + 1) out := fun z hz x hx e => by
  rw [List.take_add_one, hp] at hz
  rcases List.mem_append.1 hz with h1 | h1
  · exact h z h1 x hx e
  · simp only [Option.toList, List.mem_singleton] at h1
    subst h1
    exact hf x (by rw [List.take_length]; exact hx) (by omega)
theorem encN_snoc (F : List Nat) (x : Nat) : encN (F ++ [x]) = encN F ++ [.int .i64 (x : Int)] := by unfold encN; rw [List.map_append]; rfl
end Go.Proofs.YtihggkmjalofiaaGreatDoor

/- The document's relation: whether steps lead from one thing to another one, the least alike: walked. -/
namespace Go.Proofs.YtihggkmjalofiaaGreatDoor
open Go.RowKit

/-- the document's relation as a value -/
def R8At (w : World) (v : Value) (n : Nat) (R : Nat → Nat → Bool) : Prop :=
  n ≤ 65536 ∧ ∃ A c L, v = .agg (rel8V n A L.length c) ∧ L.length ≤ 1000000 ∧ Sl w w.heap.size 2 A L.length (L.flatMap encS) ∧ (∀ a b, R a b = true ↔ ViaL L a b) ∧ ∀ x ∈ L, x.1 < n ∧ x.2 < n
theorem via_lt {n : Nat} {L : List (Nat × Nat)} (h : ∀ x ∈ L, x.1 < n ∧ x.2 < n) {a b : Nat} (hv : ViaL L a b) : a < n ∧ b < n := by
  unfold ViaL at hv
  induction hv with
  | edge e => exact h _ e
  | step e _ _ ih => exact ⟨(h _ e).1, ih.2⟩
section
variable {w w' : World} {v : Value} {n : Nat} {R : Nat → Nat → Bool}
theorem R8At.ext (h : R8At w v n R) (hb : Below w.heap.size w w') : R8At w' v n R := by
  obtain ⟨h0, A, c, L, h1, h2, h3, h4, h5⟩ := h
  exact ⟨h0, A, c, L, h1, h2, h3.up hb (Nat.le_refl _), h4, h5⟩
theorem R8At.trans (h : R8At w v n R) : TransR n R := by
  obtain ⟨h0, A, c, L, h1, h2, h3, h4, h5⟩ := h
  exact ⟨fun {a b c} h6 h7 => (h4 _ _).2 (((h4 _ _).1 h6).trans trivial ((h4 _ _).1 h7)), fun {a b} h6 => via_lt h5 ((h4 _ _).1 h6)⟩
end
theorem R8At.of {w w' : World} {n : Nat} {L : List (Nat × Nat)} {R : Nat → Nat → Bool} {e : Ending} (h : RetR8 w n L e w') (hn : n ≤ 65536) (hl : L.length ≤ 1000000) (hR : ∀ a b, R a b = true ↔ ViaL L a b) (hL : ∀ x ∈ L, x.1 < n ∧ x.2 < n) :
    ∃ v, e = .returned v ∧ R8At w' v n R ∧ Below w.heap.size w w' := by
  obtain ⟨A, c, h1, h2, h3⟩ := h
  exact ⟨_, h1, ⟨hn, A, c, L, rfl, hl, h2, hR, hL⟩, h3⟩
/-- the least alike, so far -/
structure LeastK (R : Nat → Nat → Bool) (i : Nat) (l : List Nat) (k out : Nat) : Prop where
  is : out = i ∨ (out < i ∧ R i out = true ∧ R out i = true)
  least : ∀ y ∈ l.take k, R y i = true → out ≤ y
theorem LeastK.done {R : Nat → Nat → Bool} {i out : Nat} {l : List Nat} (h : LeastK R i l l.length out) (hl : ∀ y, R i y = true → y ∈ l) : groupR R i = out := by
  have key : ∀ j, j < out → (R i j && R j i) = false := fun j hj => by
    cases h1 : R i j
    · rfl
    · cases h2 : R j i
      · rfl
      · have := h.least j (by rw [List.take_length]; exact hl j h1) h2
        omega
  rcases h.is with rfl | ⟨h1, h2, h3⟩
  · exact groupR_none key
  · exact groupR_at h1 h2 h3 key
theorem LeastK.step {R : Nat → Nat → Bool} {i out k y : Nat} {l : List Nat} (h : LeastK R i l k out) (hy : l[k]? = some y) (ho : y < out → R y i = true → False) : LeastK R i l (k + 1) out :=
  ⟨h.is, fun z hz hr => by
    rw [List.take_add_one, hy] at hz
    rcases List.mem_append.1 hz with h1 | h1
    · exact h.least z h1 hr
    · simp only [Option.toList, List.mem_singleton] at h1
      subst h1
      rcases Nat.lt_or_ge z out with h2 | h2
      · exact (ho h2 hr).elim
      · exact h2⟩
theorem LeastK.put {R : Nat → Nat → Bool} {i out k y : Nat} {l : List Nat} (h : LeastK R i l k out) (hy : l[k]? = some y) (ho : y < out) (hi : R i y = true) (hr : R y i = true) : LeastK R i l (k + 1) y :=
  ⟨.inr ⟨by rcases h.is with h1 | h1 <;> omega, hi, hr⟩, fun z hz hz2 => by
    rw [List.take_add_one, hy] at hz
    rcases List.mem_append.1 hz with h1 | h1
    · have := h.least z h1 hz2; omega
    · simp only [Option.toList, List.mem_singleton] at h1
      omega⟩
end Go.Proofs.YtihggkmjalofiaaGreatDoor

/- Whether only taken things stand ahead of one, in the document's words: walked. -/
namespace Go.Proofs.YtihggkmjalofiaaGreatDoor
open Go.RowKit

def lenV : Value → Nat
  | .slice _ n _ => n
  | _ => 0
def RetNs (w : World) (F : List Nat) (e : Ending) (w' : World) : Prop :=
  ∃ A c, e = .returned (.slice A F.length c) ∧ w'.ownsRow w.heap.size 3 1 (.slice A F.length c) F.length (encN F) ∧ Below w.heap.size w w'
theorem pickG_at {R : Nat → Nat → Bool} {n g : Nat} {out : List Nat} (hg : g < n) (h : mayG R n out g = true) (hn : ∀ j, j < g → mayG R n out j = false) : pickG R n out = g := by
  unfold pickG
  rw [find_range hg h hn]; rfl
def grpI (R : Nat → Nat → Bool) (g i : Nat) : List Nat := (List.range i).filter fun x => groupR R x == g
theorem grpI_yes {R : Nat → Nat → Bool} {g i : Nat} (h : groupR R i = g) : grpI R g (i + 1) = grpI R g i ++ [i] := by
  unfold grpI
  rw [List.range_succ, List.filter_append]
  simp [h]
theorem grpI_no {R : Nat → Nat → Bool} {g i : Nat} (h : groupR R i ≠ g) : grpI R g (i + 1) = grpI R g i := by
  unfold grpI
  rw [List.range_succ, List.filter_append]
  simp [h]
theorem grpI_len (R : Nat → Nat → Bool) (g i : Nat) : (grpI R g i).length ≤ i := by
  unfold grpI
  have := List.length_filter_le (fun x => groupR R x == g) (List.range i)
  rwa [List.length_range] at this
end Go.Proofs.YtihggkmjalofiaaGreatDoor

/- All things one behind another: walked. -/
namespace Go.Proofs.YtihggkmjalofiaaGreatDoor
open Go.RowKit

theorem Kept.thenB {F : Nat → Prop} {a b c : World} (h : Kept F a b) (k : Below a.heap.size b c) : Kept F a c :=
  ⟨k.os.trans h.os, k.tape.trans h.tape, k.output.trans h.output, Nat.le_trans h.size k.size, fun i hi hn => (k.block i hi).trans (h.block i hi hn)⟩
/-- the groups so far, as they lie -/
structure GrpAt (w : World) (B bg n : Nat) (R : Nat → Nat → Bool) (i : Nat) (V : List Value) : Prop where
  own : w.ownsRow B 232 1 (.slice (some ⟨bg, 0, none⟩) n n) n V
  each : ∀ (g : Nat) (v : Value), V[g]? = some v → w.ownsRow B 3 1 v (grpI R g i).length (encN (grpI R g i))
  apart : ∀ (g g' : Nat) (v v' : Value) (k : Nat), V[g]? = some v → V[g']? = some v' → g ≠ g' → v.ownBlock = some k → v'.ownBlock ≠ some k
section
variable {w w' w1 : World} {B bg n i : Nat} {R : Nat → Nat → Bool} {V : List Value}
theorem GrpAt.zero (h : w.ownsRow B 232 1 (.slice (some ⟨bg, 0, none⟩) n n) n (List.replicate n (.slice none 0 0))) : GrpAt w B bg n R 0 (List.replicate n (.slice none 0 0)) := by
  have key : ∀ (g : Nat) (v : Value), (List.replicate n (Value.slice none 0 0))[g]? = some v → v = .slice none 0 0 := fun g v hv => by
    rw [List.getElem?_replicate] at hv
    split at hv
    · exact (Option.some.inj hv).symm
    · cases hv
  refine ⟨h, fun g v hv => ?_, fun g g' v v' k hv hv' _ hk => ?_⟩
  · rw [key g v hv]
    have e : grpI R g 0 = [] := by simp [grpI]
    rw [e]
    exact World.ownsRow_nil _ _ _ _
  · rw [key g v hv] at hk; cases hk
theorem GrpAt.ext (h : GrpAt w B bg n R i V) (hb : Below w.heap.size w w') : GrpAt w' B bg n R i V :=
  ⟨own_ext h.own hb, fun g v hv => own_ext (h.each g v hv) hb, h.apart⟩
theorem GrpAt.keepW (h : GrpAt w B bg n R i V) {gT gwT : Nat} {ws : List Nat} (hm : MaskAt w gT gwT n ws) (hk : Kept (fun k => k = gwT) w w') : GrpAt w' B bg n R i V :=
  ⟨own_keepF h.own fun k e => hk.block k (h.own.lt k e).2 (own_ne_own h.own hm.own (by decide) e rfl),
   fun g v hv => own_keepF (h.each g v hv) fun k e => hk.block k ((h.each g v hv).lt k e).2 (own_ne_own (h.each g v hv) hm.own (by decide) e rfl), h.apart⟩
theorem GrpAt.put (h : GrpAt w B bg n R i V) {q : Nat} (hq : groupR R i = q) (hqn : q < n) {v v1 : Value} (hv : V[q]? = some v) (own1 : w1.ownsRow B 3 1 v1 ((grpI R q i).length + 1) (encN (grpI R q i) ++ [.int .i64 (i : Int)]))
    (kp : Kept (fun k => v.ownBlock = some k) w w1) (hv1 : ∀ k, v1.ownBlock = some k → v.ownBlock = some k ∨ w.heap.size ≤ k) :
    GrpAt (w1.setCell ⟨bg, q, none⟩ v1) B bg n R (i + 1) (V.set q v1) := by
  have hvr := h.each q v hv
  have o1 : w1.ownsRow B 232 1 (.slice (some ⟨bg, 0, none⟩) n n) n V := own_keepF h.own fun k e => kp.block k (h.own.lt k e).2 fun e2 => (own_ne_own h.own hvr (by decide) e e2) rfl
  have hKb : Kept (fun k => k = bg) w1 (w1.setCell ⟨bg, q, none⟩ v1) := (Kept.refl (fun k => k = bg) w1).setCell (p := ⟨bg, q, none⟩) (.inl rfl) _
  have hlen : V.length = n := by have := h.own.1; simpa using this
  have get : ∀ (g : Nat) (u : Value), (V.set q v1)[g]? = some u → (g = q ∧ u = v1) ∨ (g ≠ q ∧ V[g]? = some u) := fun g u hu => by
    rw [List.getElem?_set] at hu
    by_cases e : q = g
    · subst e
      rw [if_pos rfl, if_pos (by omega)] at hu
      exact .inl ⟨rfl, (Option.some.inj hu).symm⟩
    · rw [if_neg e] at hu
      exact .inr ⟨fun e2 => e e2.symm, hu⟩
  refine ⟨(o1.stored q v1).1, fun g u hu => ?_, fun g g' u u' k hu hu' hne hk => ?_⟩
  · rcases get g u hu with ⟨rfl, rfl⟩ | ⟨hgq, hu2⟩
    · rw [grpI_yes hq]
      have := own_keepF own1 fun k e => hKb.block k (own1.lt k e).2 (own_ne_own own1 o1 (by decide) e rfl)
      rw [List.length_append, encN_snoc]
      exact this
    · rw [grpI_no (by rw [hq]; exact fun e => hgq e.symm)]
      have h0 := h.each g u hu2
      have h1 := own_keepF h0 (w' := w1) fun k e => kp.block k (h0.lt k e).2 fun e2 => h.apart g q u v k hu2 hv hgq e e2
      exact own_keepF h1 fun k e => hKb.block k (h1.lt k e).2 (own_ne_own h1 o1 (by decide) e rfl)
  · rcases get g u hu with ⟨rfl, rfl⟩ | ⟨hgq, hu2⟩
    · rcases get g' u' hu' with ⟨rfl, rfl⟩ | ⟨hgq', hu2'⟩
      · exact absurd rfl hne
      · intro e2
        rcases hv1 k hk with h3 | h3
        · exact h.apart g' g u' v k hu2' hv hgq' e2 h3
        · have := ((h.each g' u' hu2').lt k e2).2; omega
    · rcases get g' u' hu' with ⟨rfl, rfl⟩ | ⟨hgq', hu2'⟩
      · intro e2
        rcases hv1 k e2 with h3 | h3
        · exact h.apart g g' u v k hu2 hv hgq hk h3
        · have := ((h.each g u hu2).lt k hk).2; omega
      · exact h.apart g g' u u' k hu2 hu2' hne hk
end
theorem withM_free {n g : Nat} {R : Nat → Nat → Bool} {out wsg ws : List Nat} (h1 : ∀ x, x < n → bitAt wsg x = befR R x g) (hc : CleanW n ws) (h2 : ∀ x, x < n → bitAt ws x = decide (x ∈ out)) : withM n wsg n ws = freeR R n out g := by
  unfold withM freeR
  rw [Bool.eq_iff_iff, List.all_eq_true, List.all_eq_true]
  constructor
  · intro h x hx
    have := h x hx
    rw [h1 x (List.mem_range.1 hx), hasM_clean hc, h2 x (List.mem_range.1 hx)] at this
    exact this
  · intro h x hx
    rw [h1 x (List.mem_range.1 hx), hasM_clean hc, h2 x (List.mem_range.1 hx)]
    exact h x hx
/-- what stands while things are told -/
structure OrdSt (wb w : World) (gT gwT n : Nat) (S out ws : List Nat) (v : Value) : Prop where
  mask : MaskAt w gT gwT n ws
  cl : CleanW n ws
  bit : ∀ x, x < n → bitAt ws x = decide (x ∈ S)
  kept : Kept (fun k => k = gwT) wb w
  own : w.ownsRow wb.heap.size 3 1 v out.length (encN out)
theorem OrdSt.put {wb w w' : World} {gT gwT n x : Nat} {S out ws : List Nat} {v : Value} (h : OrdSt wb w gT gwT n S out ws v) (hx : x < n) (hm : MaskAt w' gT gwT n (putM n ws (x : Int))) (hk : Kept (fun k => k = gwT) w w') : OrdSt wb w' gT gwT n (S ++ [x]) out (putM n ws (x : Int)) v := by
  refine ⟨hm, putM_clean h.mask.ok h.cl hx, fun y hy => ?_, h.kept.trans hk fun _ e => .inl e, own_keepF h.own fun k e => hk.block k (h.own.lt k e).2 (own_ne_own h.own h.mask.own (by decide) e rfl)⟩
  rw [putM_bit h.mask.ok hx, h.bit y hy, Bool.eq_iff_iff]
  simp only [Bool.or_eq_true, decide_eq_true_eq, List.mem_append, List.mem_singleton]
  constructor
  · rintro (h1 | h1)
    · exact .inl h1
    · exact .inr h1.symm
  · rintro (h1 | h1)
    · exact .inl h1
    · exact .inr h1.symm
theorem OrdSt.cat {wb w w' : World} {gT gwT n : Nat} {S out out' ws ws0 : List Nat} {v v' : Value} (h : OrdSt wb w gT gwT n S out ws v) (h0 : MaskAt wb gT gwT n ws0) (hb : Below wb.heap.size w w') (ho : w'.ownsRow wb.heap.size 3 1 v' out'.length (encN out')) : OrdSt wb w' gT gwT n S out' ws v' :=
  ⟨h.mask.keep (hb.block _ h0.lt.1) (hb.block _ h0.lt.2), h.cl, h.bit, h.kept.thenB hb, ho⟩
theorem encN_one (F : List Nat) : ∀ u ∈ encN F, u.oneCell' = true := fun u hu => by
  obtain ⟨x, _, rfl⟩ := List.mem_map.1 hu
  rfl
theorem encN_cat (F G : List Nat) : encN (F ++ G) = encN F ++ encN G := by unfold encN; rw [List.map_append]
set_option maxRecDepth 100000 in
set_option maxHeartbeats 8000000 in
theorem order9_any {w : World} {g n : Nat} {R : Nat → Nat → Bool} (h : RelAt w g n R) (T : TransR n R) : Calls Tryz.prog 250 #[.pointer (some ⟨g, 0, none⟩)] w (RetNs w (ordR R n)) := by
  have hn0 := h.1
  have hinfo : (Tryz.prog.info? 232).map (fun i => (i.zero, i.size, i.bytes)) = some (some (.slice none 0 0), 1, 24) := by kernel_rfl
  obtain ⟨i, hi, hzz⟩ := Option.map_eq_some_iff.1 hinfo
  simp only [Prod.mk.injEq] at hzz
  obtain ⟨hz, hsz, hby⟩ := hzz
  clear hinfo
  have H := Lib.hid h
  have T := Lib.hid T
  have HA := Lib.hid (ahead9_any h)
  clear h
  go_enter Tryz.func250, Tryz.ntmps250
  go_wp2_with fail
  refine HA.out.mono ?_
  rintro e w1 ⟨b, M, rfl, hM, ah, b1⟩
  have HL := Lib.hid (len8_any (H.out.ext b1))
  go_wp2_with fail
  refine HL.out.mono ?_
  rintro e w2 ⟨rfl, rfl⟩
  have HN : Hid (Calls Tryz.prog 307 #[.int .i64 (n : Int)] w1 (RetMask w1 n (zeroW n))) := by
    have := new7_any (n : Int) w1
    rwa [roomM_nat hn0] at this
  go_wp2_with fail
  refine HN.out.mono ?_
  rintro e w2 ⟨gT, gwT, rfl, hmT, hg1, hg2, b2⟩
  have A2 := Lib.hid (ah.ext b2)
  have NE : Hid (∀ (k : Nat) (r : Row7), M[k]? = some r → r.gw ≠ gwT) := fun k r hr => by
    have := (ah.row k r hr).at_.lt.2
    omega
  have GE : Hid (w.heap.size ≤ gwT) := Nat.le_trans b1.size hg2
  have B2 := Lib.hid (b1.trans (b2.mono b1.size))
  have MT := Lib.hid hmT
  have HL2 := Lib.hid (len8_any (H.out.ext B2.out))
  clear hmT hg1 hg2 b2 ah b1 HN HL HA
  go_wp2_with fail
  refine HL2.out.mono ?_
  rintro e w3 ⟨rfl, rfl⟩
  go_wp2_with (at_make; refine wpList_make_full _ rfl _ _ 403 rfl w2.heap.size 232 i (.slice none 0 0) 1 Tryz.underlying403 hi hz hsz _ _ _ _ n (by rfl) (by rfl) rfl rfl (by rw [hby]; omega) (by unfold maxLen; omega) (Nat.le_refl _) ?_; intro w3 own3 gr3)
  rw [made1 rfl] at own3
  have B3 : Hid (Below w2.heap.size w2 w3) := ⟨gr3.os, gr3.tape, gr3.output, gr3.size, fun k hk => gr3.block k hk (by simp)⟩
  have G3 : Hid (GrpAt w3 w2.heap.size w2.heap.size n R 0 (List.replicate n (.slice none 0 0))) := GrpAt.zero own3
  have HL3 := Lib.hid (len8_any (H.out.ext (B2.out.trans (B3.out.mono B2.out.size))))
  clear own3 gr3 hi hz hsz hby HL2
  obtain ⟨bg, hgb⟩ : ∃ g, g = w2.heap.size := ⟨_, rfl⟩
  rw [← hgb] at G3 ⊢
  replace hgb := Lib.hid hgb
  refine HL3.out.mono ?_
  rintro e w4 ⟨rfl, rfl⟩
  clear HL3
  go_wp2_with fail
  go_loopw [23] (fun v wr => ∃ (i : Nat) (V : List Value), i ≤ n ∧ v = .int .i64 i ∧ Hid (GrpAt wr bg bg n R i V) ∧ Hid (Below w2.heap.size w2 wr)) (fun v _ => n - (intOf v).toNat)
  case atStart => exact ⟨0, _, by omega, rfl, G3.out, B3.out⟩
  case round =>
    clear G3 B3
    obtain ⟨i, V, hin, rfl, G, BB⟩ := hrel
    have hi0 : (0 : Int) ≤ (i : Int) := by omega
    have hbs : bg ≤ wr.heap.size := by rw [hgb.out]; exact BB.out.size
    by_cases hlt : i < n
    · have hlk : (i : Int) < (n : Int) := by omega
      have HG := Lib.hid (group8_any (H.out.ext (B2.out.trans (BB.out.mono B2.out.size))) i hlt)
      have hqn : groupR R i < n := groupR_lt hlt
      obtain ⟨q, hq⟩ : ∃ q, groupR R i = q := ⟨_, rfl⟩
      rw [hq] at HG hqn
      have HQ := Lib.hid hq
      clear hq
      have hq0 : (0 : Int) ≤ (q : Int) := by omega
      have hqk : (q : Int) < (n : Int) := by omega
      obtain ⟨v, hv⟩ : ∃ v, V[q]? = some v := ⟨_, List.getElem?_eq_getElem (by have := G.out.own.1; omega)⟩
      have HV := Lib.hid hv
      have O := Lib.hid (G.out.each q v hv)
      obtain ⟨A1, c1, rfl, _, _⟩ := Sl.of_own O.out
      have hc : wr.cell? ⟨bg, q, none⟩ = some (.slice A1 (grpI R q i).length c1) := by rw [G.out.own.cellAt q (by omega)]; exact hv
      have hgl : (grpI R q i).length ≤ 65536 := by have := grpI_len R q i; omega
      clear hv
      go_wp2_with fail
      refine HG.out.mono ?_
      rintro e w3 ⟨rfl, rfl⟩
      go_wp2_with (at_builtin; refine wpList_pushF intSlH O.out [.int .i64 (i : Int)] rfl (by simp [Value.oneCell']) hbs (by omega) (by unfold maxLen; omega) (by rfl) (by rfl) (by rfl) ?_; intro v1 w6 own1 kp hv1; obtain ⟨A6, c6, rfl, _, _⟩ := Sl.of_own own1; have hc6 := (kp.block bg (G.out.own.lt bg rfl).2 fun e2 => (own_ne_own G.out.own O.out (by decide) rfl e2) rfl); have o6 := own_keepF G.out.own (w' := w6) fun k e => (show k = bg by simpa [Value.ownBlock] using e.symm) ▸ hc6; have hc7 : w6.cell? ⟨bg, q, none⟩ = some (.slice A1 (grpI R q i).length c1) := (by rw [o6.cellAt q (by omega)]; exact HV.out); have hf7 : w6.frozen? ⟨bg, q, none⟩ = false := o6.frozenAt _; clear hc6 o6)
      have G2 := Lib.hid (G.out.put HQ.out hqn HV.out own1 kp hv1)
      have BB2 : Hid (Below w2.heap.size w2 (w6.setCell ⟨bg, q, none⟩ (.slice A6 ((grpI R q i).length + 1) c6))) := (BB.out.trans (kp.below (fun k e => by rw [← hgb.out]; exact (O.out.lt k e).1) BB.out.size)).setCell (p := ⟨bg, q, none⟩) (by rw [← hgb.out]; exact Nat.le_refl _) _
      clear own1 kp hv1 O G BB HG hc hc7 hf7
      go_roundw
      case rel => exact ⟨i + 1, _, by omega, by go_num, G2.out, BB2.out⟩
      case measure => simp [intOf]; omega
    · have hlk : ¬ (i : Int) < (n : Int) := by omega
      obtain rfl : i = n := by omega
      have GG := G
      have AA := Lib.hid (A2.out.ext BB.out)
      have MM := Lib.hid (MT.out.ext BB.out)
      have BW := Lib.hid (B2.out.trans (BB.out.mono B2.out.size))
      have S0 : Hid (OrdSt wr wr gT gwT i (ordAt R i 0) (ordAt R i 0) (zeroW i) (.slice none 0 0)) := ⟨MM.out, CleanW.zero i, fun x _ => by rw [zeroW_bit]; simp [ordAt], Kept.refl _ _, World.ownsRow_nil _ _ _ _⟩
      clear G BB A2 B2 MT
      generalize wr = wb at *
      go_wp2_with fail
      go_loopw [8] (fun s wr => ∃ (m c' : Nat) (A' : Option Addr) (ws : List Nat), s = .slice A' (ordAt R i m).length c' ∧ Hid (OrdSt wb wr gT gwT i (ordAt R i m) (ordAt R i m) ws (.slice A' (ordAt R i m).length c'))) (fun s _ => i - lenV s)
      case atStart => exact ⟨0, 0, none, _, rfl, S0.out⟩
      case round =>
        clear S0
        obtain ⟨m, c', A', ws, rfl, S⟩ := hrel
        have TD := Lib.hid (ordAt_told T.out m).1
        have NX := Lib.hid (fun h => ordAt_next (R := R) (n := i) (k := m) h)
        have DN := Lib.hid (fun h => ordAt_done T.out (k := m) h)
        generalize ordAt R i m = out at *
        have hle := TD.out.le
        have KB : Hid (Below w.heap.size w wr) := BW.out.trans (S.out.kept.below (fun k e => by rw [e]; exact GE.out) BW.out.size)
        have HL := Lib.hid (len8_any (H.out.ext KB.out))
        by_cases hlt : out.length < i
        · have hlk : ((out.length : Nat) : Int) < (i : Int) := by omega
          go_wp2_with fail
          refine HL.out.mono ?_
          rintro e w5 ⟨rfl, rfl⟩
          go_wp2_with fail
          clear HL
          go_loopw [47, 8] (fun v s8 w5 => ∃ q : Nat, q ≤ i ∧ v = .int .i64 q ∧ s8 = .slice A' out.length c' ∧ Hid (∀ j, j < q → mayG R i out j = false) ∧ Hid (OrdSt wb w5 gT gwT i out out ws (.slice A' out.length c'))) (fun v _ _ => i - (intOf v).toNat)
          case atStart => exact ⟨0, by omega, rfl, rfl, fun _ h => by omega, S.out⟩
          case round =>
            clear S KB
            obtain ⟨q, hq, rfl, rfl, N, S⟩ := hrel
            have hq0 : (0 : Int) ≤ (q : Int) := by omega
            have AW := Lib.hid (AA.out.keepW MM.out NE.out S.out.kept)
            have GW := Lib.hid (GG.out.keepW MM.out S.out.kept)
            by_cases hqn : q < i
            · have hqk : (q : Int) < (i : Int) := by omega
              obtain ⟨v, hv⟩ : ∃ v, V[q]? = some v := ⟨_, List.getElem?_eq_getElem (by have := GG.out.own.1; omega)⟩
              have HV := Lib.hid hv
              have O := Lib.hid (GW.out.each q v hv)
              obtain ⟨Ag, cg, rfl, _, _⟩ := Sl.of_own O.out
              have hcV := GW.out.own.cellAt q (by omega)
              rw [hv] at hcV
              clear hv
              have NN : Hid (mayG R i out q = false → ∀ j, j < q + 1 → mayG R i out j = false) := fun h j hj => by
                rcases Nat.lt_or_ge j q with h4 | h4
                · exact N.out j h4
                · obtain rfl : j = q := by omega
                  exact h
              have MG : Hid (mayG R i out q = ((groupR R q == q) && (!(decide (q ∈ out)) && freeR R i out q))) := rfl
              have GN : Hid (grpI R q i = [] ↔ groupR R q ≠ q) := grpL_nil T.out hqn
              have GX : Hid (∀ x ∈ grpI R q i, x < i) := fun x hx => (mem_grpL.1 hx).1
              have GL := grpI_len R q i
              have PK : Hid (mayG R i out q = true → ordAt R i (m + 1) = out ++ grpI R q i) := fun h => by
                rw [NX.out hlt, pickG_at hqn h N.out]; rfl
              by_cases hl : (grpI R q i).length = 0
              · have e1 : decide (((grpI R q i).length : Int) = 0) = true := decide_eq_true (by omega)
                have e2 := decide_eq_true hl
                have hnil := List.eq_nil_of_length_eq_zero hl
                have N2 := Lib.hid (NN.out (by rw [MG.out, beq_eq_false_iff_ne.2 (GN.out.1 hnil)]; rfl))
                rw [hl] at hcV e1 e2
                clear NN MG GN GX PK O GW AW
                go_wp2_with fail
                go_roundw
                case rel => exact ⟨q + 1, by omega, by go_num, rfl, N2.out, S.out⟩
                case measure => simp [intOf]; omega
              · have hgq : groupR R q = q := Classical.byContradiction fun hc => hl (by rw [GN.out.2 hc]; rfl)
                have e1 : decide (((grpI R q i).length : Int) = 0) = false := decide_eq_false (by omega)
                have e2 := decide_eq_false hl
                have e5 : (((grpI R q i).length : Int) == 0) = false := by rw [beq_eq_false_iff_ne]; omega
                have e3 : decide (grpI R q i = []) = false := decide_eq_false fun e => hl (by rw [e]; rfl)
                have e4 : ¬ grpI R q i = [] := fun e => hl (by rw [e]; rfl)
                have HH := Lib.hid (has7_any S.out.mask (q : Int))
                rw [hasM_clean S.out.cl, S.out.bit q hqn] at HH
                have GG2 : Hid ((groupR R q == q) = true) := by rw [Hid, hgq, beq_self_eq_true]
                have LP : Hid (0 < (grpI R q i).length) := Nat.pos_of_ne_zero hl
                by_cases h2 : q ∈ out
                · rw [decide_eq_true h2] at HH
                  have N2 := Lib.hid (NN.out (by rw [MG.out, decide_eq_true h2]; simp))
                  clear NN MG GN GX PK O GW AW GG2
                  go_wp2_with fail
                  refine HH.out.mono ?_
                  rintro e w6 ⟨rfl, rfl⟩
                  go_wp2_with fail
                  go_roundw
                  case rel => exact ⟨q + 1, by omega, by go_num, rfl, N2.out, S.out⟩
                  case measure => simp [intOf]; omega
                · rw [decide_eq_false h2] at HH
                  obtain ⟨r, hr⟩ : ∃ r, M[q]? = some r := ⟨_, List.getElem?_eq_getElem (by omega)⟩
                  have hcA := AW.out.own.cellAt q (by omega)
                  rw [encP7_get hr] at hcA
                  have AR := AW.out.row q r hr
                  have HW := Lib.hid (within7_any AR.at_ AR.cl S.out.mask)
                  rw [withM_free AR.bit S.out.cl S.out.bit] at HW
                  clear AR hr
                  cases h3 : freeR R i out q
                  · rw [h3] at HW
                    have N2 := Lib.hid (NN.out (by rw [MG.out, h3]; simp))
                    clear NN MG GN GX PK O GW AW GG2
                    go_wp2_with fail
                    refine HH.out.mono ?_
                    rintro e w6 ⟨rfl, rfl⟩
                    go_wp2_with fail
                    refine HW.out.mono ?_
                    rintro e w6 ⟨rfl, rfl⟩
                    go_wp2_with fail
                    go_roundw
                    case rel => exact ⟨q + 1, by omega, by go_num, rfl, N2.out, S.out⟩
                    case measure => simp [intOf]; omega
                  · rw [h3] at HW
                    have PK2 := Lib.hid (PK.out (by rw [MG.out, GG2.out, decide_eq_false h2, h3]; rfl))
                    have S0 : Hid (OrdSt wb wr gT gwT i (out ++ (grpI R q i).take 0) out ws (.slice A' out.length c')) := by rw [List.take_zero, List.append_nil]; exact S.out
                    clear NN MG GN PK GG2 N AW
                    go_wp2_with fail
                    refine HH.out.mono ?_
                    rintro e w6 ⟨rfl, rfl⟩
                    go_wp2_with fail
                    refine HW.out.mono ?_
                    rintro e w6 ⟨rfl, rfl⟩
                    clear HH HW hcA
                    go_wp2_with fail
                    try simp only [e5]
                    clear e1 e2 e3 e4 e5 hcV O GW S
                    go_loopw [71] (fun v w6 => ∃ (k : Nat) (ws : List Nat), k ≤ (grpI R q i).length ∧ v = .int .i64 k ∧ Hid (OrdSt wb w6 gT gwT i (out ++ (grpI R q i).take k) out ws (.slice A' out.length c'))) (fun v _ => (grpI R q i).length - (intOf v).toNat)
                    case atStart => exact ⟨0, ws, by omega, rfl, S0.out⟩
                    case round =>
                      clear S0
                      obtain ⟨k, ws, hk, rfl, S⟩ := hrel
                      have hk0 : (0 : Int) ≤ (k : Int) := by omega
                      have GW := Lib.hid (GG.out.keepW MM.out S.out.kept)
                      have O := Lib.hid (GW.out.each q _ HV.out)
                      by_cases hkl : k < (grpI R q i).length
                      · have hkk : (k : Int) < ((grpI R q i).length : Int) := by omega
                        obtain ⟨bo, oo, rfl, hb, hcx⟩ := encN_at O.out hkl
                        have HT : Hid ((grpI R q i).take (k + 1) = (grpI R q i).take k ++ [(grpI R q i)[k]]) := by rw [Hid, List.take_add_one, List.getElem?_eq_getElem hkl]; rfl
                        have HX : Hid ((grpI R q i)[k] < i) := GX.out _ (List.getElem_mem hkl)
                        generalize (grpI R q i)[k] = x at *
                        have HP := Lib.hid (put7_any S.out.mask (x : Int))
                        clear O GW hb
                        go_wp2_with fail
                        refine HP.out.mono ?_
                        rintro e w7 ⟨rfl, hm7, hk7⟩
                        have S2 := Lib.hid (S.out.put HX.out hm7 hk7)
                        rw [List.append_assoc, ← HT.out] at S2
                        clear hm7 hk7 HP S hcx
                        go_wp2_with fail
                        go_roundw
                        case rel => exact ⟨k + 1, _, by omega, by go_num, S2.out⟩
                        case measure => simp [intOf]; omega
                      · have hkk : ¬ (k : Int) < ((grpI R q i).length : Int) := by omega
                        obtain ⟨A1, c1, ee, _, sl⟩ := Sl.of_own O.out
                        cases ee
                        have SL := Lib.hid sl
                        have hS : out ++ (grpI R q i).take k = out ++ grpI R q i := by rw [List.take_of_length_le (by omega)]
                        rw [hS] at S
                        have E1 := Lib.hid (encN_one (grpI R q i))
                        have hbs := S.out.kept.size
                        clear sl O GW hS
                        go_wp2_with (at_builtin; refine wpList_cat intSlH S.out.own SL.out E1.out hbs (by omega) (by unfold maxLen; omega) (by rfl) (by rfl) ?_; intro v1 w7 own7 b7)
                        obtain ⟨A7, c7, rfl, _, _⟩ := Sl.of_own own7
                        rw [← encN_cat, ← List.length_append] at own7
                        have S2 := Lib.hid (S.out.cat MM.out b7 own7)
                        rw [← PK2.out] at S2
                        have PL : Hid (out.length + (grpI R q i).length = (ordAt R i (m + 1)).length) := by rw [Hid, PK2.out, List.length_append]
                        clear own7 b7 S SL E1
                        go_roundw
                        case rel => exact ⟨m + 1, c7, A7, ws, by rw [PL.out], S2.out⟩
                        case measure =>
                          show i - lenV (.slice A7 (out.length + (grpI R q i).length) c7) < i - lenV (.slice A' out.length c')
                          have := LP.out
                          simp only [lenV]; omega
            · exfalso
              obtain ⟨g', _, _, h1, h2⟩ := pick_there T.out TD.out hlt
              rw [N.out g' (by omega)] at h2
              cases h2
        · have hlk : ¬ ((out.length : Nat) : Int) < (i : Int) := by omega
          have E := Lib.hid (DN.out hlt)
          have OO := Lib.hid (own_rebase (base' := w.heap.size) S.out.own fun k e => Nat.le_trans BW.out.size (S.out.own.lt k e).1)
          go_wp2_with fail
          refine HL.out.mono ?_
          rintro e w5 ⟨rfl, rfl⟩
          go_wp2
          go_ret
          exact ⟨A', c', by rw [← E.out]; rfl, by rw [← E.out]; exact OO.out, KB.out⟩
end Go.Proofs.YtihggkmjalofiaaGreatDoor

/- All things one behind another, as the document tells them: walked. -/
namespace Go.Proofs.YtihggkmjalofiaaGreatDoor
open Go.RowKit

end Go.Proofs.YtihggkmjalofiaaGreatDoor
