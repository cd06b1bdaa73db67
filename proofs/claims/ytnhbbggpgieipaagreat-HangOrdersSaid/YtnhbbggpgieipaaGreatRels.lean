/- Texts of general use, one behind another. -/
import Derived.Test.YtnhbbggpgieipaaGreatPoolq
import Derived.Test.YtnhbbggpgieipaaGreatGen
import Derived.Maps.Keyed
import Derived.Test.YtnhbbggpgieipaaGreatMasks
import Derived.Test.YtnhbbggpgieipaaGreatIdxw

/- The transitive closure, row by row, whichever the order: plain law; no program in sight. -/
namespace Go.Proofs.YtnhbbggpgieipaaGreat
open Go.RowKit

/-- a way from one thing to another one, whatever lies between in K -/
inductive Via (E : Nat → Nat → Prop) (K : Nat → Prop) : Nat → Nat → Prop
  | edge {a b : Nat} : E a b → Via E K a b
  | step {a c b : Nat} : E a c → K c → Via E K c b → Via E K a b
section
variable {E : Nat → Nat → Prop} {K K' : Nat → Prop} {a b c k : Nat}
theorem Via.mono (h : Via E K a b) (hK : ∀ x, K x → K' x) : Via E K' a b := by
  induction h with
  | edge e => exact .edge e
  | step e hc _ ih => exact .step e (hK _ hc) ih
theorem Via.first (h : Via E K a b) : ∃ c, E a c := by
  cases h with
  | edge e => exact ⟨_, e⟩
  | step e _ _ => exact ⟨_, e⟩
theorem Via.trans (h : Via E K a c) (hc : K c) (h2 : Via E K c b) : Via E K a b := by
  induction h with
  | edge e => exact .step e hc h2
  | step e hd _ ih => exact .step e hd (ih hc h2)
theorem Via.split (h : Via E (fun x => K x ∨ x = k) a b) : Via E K a b ∨ (Via E K a k ∧ Via E K k b) := by
  induction h with
  | edge e => exact .inl (.edge e)
  | step e hc _ ih =>
    rcases hc with hc | rfl
    · rcases ih with ih | ⟨i1, i2⟩
      · exact .inl (.step e hc ih)
      · exact .inr ⟨.step e hc i1, i2⟩
    · rcases ih with ih | ⟨_, i2⟩
      · exact .inr ⟨.edge e, ih⟩
      · exact .inr ⟨.edge e, i2⟩
/-- whatever lies between leads on -/
theorem Via.inner (h : Via E (fun _ => True) a b) (hK : ∀ x y, E x y → K x) : Via E K a b := by
  induction h with
  | edge e => exact .edge e
  | step e _ h2 ih =>
    obtain ⟨y, hy⟩ := h2.first
    exact .step e (hK _ _ hy) ih
theorem Via.congr {E' : Nat → Nat → Prop} (hE : ∀ x y, E x y ↔ E' x y) : Via E K a b ↔ Via E' K a b := by
  constructor
  · intro h
    induction h with
    | edge e => exact .edge ((hE _ _).1 e)
    | step e hc _ ih => exact .step ((hE _ _).1 e) hc ih
  · intro h
    induction h with
    | edge e => exact .edge ((hE _ _).2 e)
    | step e hc _ ih => exact .step ((hE _ _).2 e) hc ih
end
/-- row i takes in row k, if it has k -/
def orRow (R : Nat → Nat → Bool) (i k : Nat) : Nat → Nat → Bool := fun a b => if a = i ∧ R i k = true then R i b || R k b else R a b
/-- all rows of a list do so -/
def sweep (l : List Nat) (R : Nat → Nat → Bool) (k : Nat) : Nat → Nat → Bool := fun a b => if a ∈ l ∧ R a k = true then R a b || R k b else R a b
theorem sweep_row (l : List Nat) (R : Nat → Nat → Bool) (k b : Nat) : sweep l R k k b = R k b := by
  unfold sweep
  split
  · rw [Bool.or_self]
  · rfl
theorem sweep_nil (R : Nat → Nat → Bool) (k : Nat) : sweep [] R k = R := by
  funext a b
  unfold sweep
  rw [if_neg (by simp)]
theorem sweep_snoc (l : List Nat) (R : Nat → Nat → Bool) (k i : Nat) : sweep (l ++ [i]) R k = orRow (sweep l R k) i k := by
  funext a b
  unfold orRow
  rw [sweep_row]
  unfold sweep
  by_cases ha : a = i
  · subst ha
    by_cases hk : R a k = true
    · by_cases hl : a ∈ l <;> simp [hk, hl]
    · by_cases hl : a ∈ l <;> simp [hk, hl]
  · by_cases hl : a ∈ l <;> simp [ha, hl]
/-- all sweeps, one for each of a list -/
def cloK (from_ l : List Nat) (R : Nat → Nat → Bool) : Nat → Nat → Bool := l.foldl (fun R k => sweep from_ R k) R
def clo (from_ : List Nat) (R : Nat → Nat → Bool) : Nat → Nat → Bool := cloK from_ from_ R
theorem cloK_snoc (from_ l : List Nat) (R : Nat → Nat → Bool) (k : Nat) : cloK from_ (l ++ [k]) R = sweep from_ (cloK from_ l R) k := by unfold cloK; rw [List.foldl_append]; rfl
theorem cloK_inv {from_ : List Nat} {R : Nat → Nat → Bool} (hf : ∀ a b, R a b = true → a ∈ from_) (l : List Nat) :
    (∀ a b, cloK from_ l R a b = true → Via (fun x y => R x y = true) (fun _ => True) a b) ∧ (∀ a b, Via (fun x y => R x y = true) (fun x => x ∈ l) a b → cloK from_ l R a b = true) := by
  refine snoc_ind (P := fun l => (∀ a b, cloK from_ l R a b = true → Via (fun x y => R x y = true) (fun _ => True) a b) ∧ (∀ a b, Via (fun x y => R x y = true) (fun x => x ∈ l) a b → cloK from_ l R a b = true)) ⟨fun a b h => .edge h, fun a b h => ?_⟩ (fun l k ih => ?_) l
  · cases h with
    | edge e => exact e
    | step _ hc _ => cases hc
  · obtain ⟨i1, i2⟩ := ih
    rw [cloK_snoc]
    constructor
    · intro a b h
      unfold sweep at h
      split at h
      · rename_i hc
        rw [Bool.or_eq_true] at h
        rcases h with h | h
        · exact i1 a b h
        · exact (i1 a k hc.2).trans trivial (i1 k b h)
      · exact i1 a b h
    · intro a b h
      have h' : Via (fun x y => R x y = true) (fun x => x ∈ l ∨ x = k) a b := h.mono fun x hx => by simpa using hx
      unfold sweep
      rcases h'.split with h1 | ⟨h1, h2⟩
      · have := i2 a b h1
        split
        · rw [this]; rfl
        · exact this
      · obtain ⟨c, hc⟩ := h1.first
        rw [if_pos ⟨hf a c hc, i2 a k h1⟩, i2 k b h2, Bool.or_true]
/-- it is the closure, whichever the order -/
theorem clo_iff {from_ : List Nat} {R : Nat → Nat → Bool} (hf : ∀ a b, R a b = true → a ∈ from_) (a b : Nat) : clo from_ R a b = true ↔ Via (fun x y => R x y = true) (fun _ => True) a b := by
  obtain ⟨h1, h2⟩ := cloK_inv hf from_
  exact ⟨h1 a b, fun h => h2 a b (h.inner fun x y e => hf x y e)⟩
end Go.Proofs.YtnhbbggpgieipaaGreat

/- A map's block keyed by whole numbers: lookups and stores. No program in sight but as a variable. -/
namespace Go.Proofs.YtnhbbggpgieipaaGreat
open Go.RowKit Go.MapKept
open Go.ChangeMaps (setBlock modify_eq_set)

section
variable {P : Program} {k : TypeId} {w w' : World} {b : Nat} {l : List (Value × Value)}
/-- 'm[key]': the run, in any world with this block -/
theorem MapIs.lookK {t e : TypeId} (h : MapIs P k w b l) (K : Go.Maps.Keyed P k) (ht : P.underlying t = some (.map k e)) {z : Value} (hz : ∀ u : World, (zeroValue e).run P u = .ok z u) {key : Value} {kl : Lit} (hkey : keyOf P k key = some kl) :
    ∃ v, GetL l key z v ∧ ∀ w', w'.heap[b]? = w.heap[b]? → (Instr.lookup t (.map (some b)) key false).run P w' = .ok v w' := by
  obtain ⟨es, clock, hb, hs, hk, rfl⟩ := h
  rcases K.find w hkey es.toList hk with ⟨h1, h2⟩ | ⟨j, e0, h1, h2, h3⟩
  · refine ⟨z, .inl ⟨fun p hp => ?_, rfl⟩, fun w' hw => ?_⟩
    · obtain ⟨x, hx, rfl⟩ := List.mem_map.1 hp; exact h2 x hx
    · have hb' := hw.trans hb
      rcases K.find w' hkey es.toList hk with ⟨g1, g2⟩ | ⟨j, e0, g1, g2, g3⟩
      · simp [Instr.lookup, run_underlying ht, MapKept.run_getObj_map hb', K.check w' _ hkey, g1, hz, Result.andThen]
      · exact absurd g3 (h2 e0 (List.mem_of_getElem? g2))
  · refine ⟨e0.val, .inr (List.mem_map.2 ⟨e0, List.mem_of_getElem? h2, by rw [pairOf, h3]⟩), fun w' hw => ?_⟩
    have hb' := hw.trans hb
    rcases K.find w' hkey es.toList hk with ⟨g1, g2⟩ | ⟨j', e1, g1, g2, g3⟩
    · exact absurd h3 (g2 e0 (List.mem_of_getElem? h2))
    · have hd : es.toList.Pairwise (fun x y => x.key ≠ y.key) := ((stamped_iff es clock).1 hs).2.2
      have he : e1 = e0 := by
        obtain ⟨hj, rfl⟩ := List.getElem?_eq_some_iff.1 h2
        obtain ⟨hj', rfl⟩ := List.getElem?_eq_some_iff.1 g2
        have hp := List.pairwise_iff_getElem.1 hd
        rcases Nat.lt_trichotomy j j' with c | c | c
        · exact absurd (h3.trans g3.symm) (hp j j' hj hj' c)
        · subst c; rfl
        · exact absurd (g3.trans h3.symm) (hp j' j hj' hj c)
      subst he
      simp [Instr.lookup, run_underlying ht, MapKept.run_getObj_map hb', K.check w' _ hkey, g1, Result.andThen]
/-- 'm[key] = val' -/
theorem MapIs.putK {t e : TypeId} (h : MapIs P k w b l) (K : Go.Maps.Keyed P k) (ht : P.underlying t = some (.map k e)) {key val : Value} {kl : Lit} (hkey : keyOf P k key = some kl) :
    ∃ o l', (Instr.mapUpdate t (.map (some b)) key val).run P w = .ok () (setBlock w b o) ∧ PutL l key val l' ∧ MapIs P k (setBlock w b o) b l' := by
  have hlt := h.lt
  obtain ⟨es, clock, hb, hs, hk, rfl⟩ := h
  rcases K.find w hkey es.toList hk with ⟨h1, h2⟩ | ⟨j, e0, h1, h2, h3⟩
  · refine ⟨.map (es.push ⟨key, val, clock⟩) (clock + 1), _, ?_, .inl ⟨fun p hp => ?_, rfl⟩, es.push ⟨key, val, clock⟩, clock + 1, setBlock_heap hlt, stamped_push hs h2, fun x hx => ?_, by simp [pairOf]⟩
    · simp [Instr.mapUpdate, run_underlying ht, MapKept.run_getObj_map hb, K.check w false hkey, h1, MapKept.run_setObj_map _ hb, Result.andThen, setBlock]
    · obtain ⟨x, hx, rfl⟩ := List.mem_map.1 hp; exact h2 x hx
    · simp only [Array.toList_push, List.mem_append, List.mem_singleton] at hx
      rcases hx with hx | rfl
      · exact hk x hx
      · exact ⟨_, hkey⟩
  · have hj : es[j]? = some e0 := by simpa using h2
    have hkeyf : ∀ e', es[j]? = some e' → ({ e' with key := key, val := val } : MapEntry).key = e'.key := fun e' he' => by rw [hj] at he'; cases he'; exact h3.symm
    refine ⟨.map (es.modify j (fun e' => { e' with key := key, val := val })) clock, _, ?_, .inr ⟨j, e0.val, by rw [List.getElem?_map, h2]; simp [pairOf, h3], rfl⟩, es.modify j (fun e' => { e' with key := key, val := val }), clock, setBlock_heap hlt, stamped_modify hs _ _ (fun _ _ => rfl) (fun e' _ he' => hkeyf e' he'), fun x hx => ?_, ?_⟩
    · simp [Instr.mapUpdate, run_underlying ht, MapKept.run_getObj_map hb, K.check w false hkey, h1, hj, h3, K.stays w hkey, MapKept.run_setObj_map _ hb, Result.andThen, setBlock]
    · rcases MapFrom.mem_modify hx with hx | ⟨e', _, rfl⟩
      · exact hk x hx
      · exact ⟨_, hkey⟩
    · rw [Array.toList_modify, modify_eq_set _ _ _ _ h2, List.map_set]; rfl
end
end Go.Proofs.YtnhbbggpgieipaaGreat

/- Which things come ahead of which, as it lies: a map of sets; whether steps lead from one to another one, how many there are: walked. -/
namespace Go.Proofs.YtnhbbggpgieipaaGreat
open Go.RowKit
open Go.MapKept

theorem kLawN : Go.Maps.Keyed Tryz.prog 3 := Go.Maps.int_keyed Tryz.underlying3
theorem kMapM : Tryz.prog.underlying 130 = some (.map 3 133) := by kernel_rfl
theorem kZeroM (u : World) : (zeroValue 133).run Tryz.prog u = .ok (.pointer none) u := by kernel_rfl
theorem kKeyN {i : Int} (h : -9223372036854775808 ≤ i ∧ i ≤ 9223372036854775807) : keyOf Tryz.prog 3 (.int .i64 i) = some (.int .i64 i) :=
  Go.Maps.keyOf_int_mk Tryz.underlying3 (by simp [Lit.wf, IntKind.min, IntKind.max, IntKind.signed, IntKind.bits]; omega)
/-- a row: the thing, its set's block, the words' block, the words -/
structure Row7 where
  i : Nat
  g : Nat
  gw : Nat
  ws : List Nat
def entR (T : List Row7) : List (Value × Value) := T.map fun r => (.int .i64 (r.i : Int), .pointer (some ⟨r.g, 0, none⟩))
/-- the rows as they lie -/
structure RowsAt7 (w : World) (gm n : Nat) (T : List Row7) : Prop where
  map : MapIs Tryz.prog 3 w gm (entR T)
  row : ∀ r ∈ T, MaskAt w r.g r.gw n r.ws
  cl : ∀ r ∈ T, CleanW n r.ws
  lt : ∀ r ∈ T, r.i < n
  ap : T.Pairwise fun a b => a.i ≠ b.i ∧ a.g ≠ b.g ∧ a.gw ≠ b.gw
def relT (T : List Row7) (i j : Nat) : Bool := T.any fun r => (r.i == i) && bitAt r.ws j
section
variable {w w' : World} {gm n : Nat} {T : List Row7}
theorem RowsAt7.ext (h : RowsAt7 w gm n T) (hb : Below w.heap.size w w') : RowsAt7 w' gm n T :=
  ⟨h.map.ext hb, fun r hr => (h.row r hr).ext hb, h.cl, h.lt, h.ap⟩
theorem RowsAt7.one (h : RowsAt7 w gm n T) {r s : Row7} (hr : r ∈ T) (hs : s ∈ T) (e : r.i = s.i) : r = s := by
  obtain ⟨i, hi, rfl⟩ := List.getElem_of_mem hr
  obtain ⟨j, hj, rfl⟩ := List.getElem_of_mem hs
  have hp := List.pairwise_iff_getElem.1 h.ap
  rcases Nat.lt_trichotomy i j with c | c | c
  · exact absurd e (hp i j hi hj c).1
  · subst c; rfl
  · exact absurd e.symm (hp j i hj hi c).1
theorem RowsAt7.rel (h : RowsAt7 w gm n T) {r : Row7} (hr : r ∈ T) (j : Nat) : relT T r.i j = bitAt r.ws j := by
  unfold relT
  cases hb : bitAt r.ws j
  · rw [List.any_eq_false]
    intro s hs
    by_cases e : s.i = r.i
    · obtain rfl := h.one hs hr e
      rw [hb]; simp
    · simp [e]
  · rw [List.any_eq_true]
    exact ⟨r, hr, by simp [hb]⟩
theorem relT_none {i j : Nat} (h : ∀ r ∈ T, r.i ≠ i) : relT T i j = false := by
  unfold relT
  rw [List.any_eq_false]
  intro r hr
  simp [h r hr]
theorem RowsAt7.look (h : RowsAt7 w gm n T) (i : Int) (hi : -9223372036854775808 ≤ i ∧ i ≤ 9223372036854775807) :
    ∃ v, (∀ w' : World, w'.heap[gm]? = w.heap[gm]? → (Instr.lookup 130 (.map (some gm)) (.int .i64 i) false).run Tryz.prog w' = .ok v w') ∧
      ((v = .pointer none ∧ ∀ r ∈ T, (r.i : Int) ≠ i) ∨ ∃ r ∈ T, (r.i : Int) = i ∧ v = .pointer (some ⟨r.g, 0, none⟩)) := by
  obtain ⟨v, hg, hl⟩ := h.map.lookK kLawN kMapM kZeroM (kKeyN hi)
  refine ⟨v, hl, ?_⟩
  rcases hg with ⟨h1, rfl⟩ | h1
  · refine .inl ⟨rfl, fun r hr e => h1 (.int .i64 (r.i : Int), .pointer (some ⟨r.g, 0, none⟩)) (List.mem_map.2 ⟨r, hr, rfl⟩) (by rw [e])⟩
  · obtain ⟨r, hr, e⟩ := List.mem_map.1 h1
    simp only [Prod.mk.injEq, Value.int.injEq, true_and] at e
    exact .inr ⟨r, hr, e.1, e.2.symm⟩
end
/-- a relation as it lies -/
def RelAt (w : World) (g n : Nat) (R : Nat → Nat → Bool) : Prop :=
  n ≤ 65536 ∧ ∃ gm T, Blk w g 132 #[.int .i64 (n : Int), .map (some gm)] ∧ RowsAt7 w gm n T ∧ ∀ i j, relT T i j = R i j
def hasR (R : Nat → Nat → Bool) (i j : Int) : Bool := decide (0 ≤ i) && decide (0 ≤ j) && R i.toNat j.toNat
theorem hasR_nat (R : Nat → Nat → Bool) (i j : Nat) : hasR R i j = R i j := by simp [hasR]
section
variable {w w' : World} {g n : Nat} {R : Nat → Nat → Bool}
theorem RelAt.ext (h : RelAt w g n R) (hb : Below w.heap.size w w') : RelAt w' g n R := by
  obtain ⟨h0, gm, T, h1, h2, h3⟩ := h
  exact ⟨h0, gm, T, h1.ext hb, h2.ext hb, h3⟩
theorem RelAt.lt (h : RelAt w g n R) : g < w.heap.size := by
  obtain ⟨h0, gm, T, h1, h2, h3⟩ := h
  exact h1.lt
/-- only things are in it -/
theorem RelAt.in (h : RelAt w g n R) {i j : Nat} (hr : R i j = true) : i < n ∧ j < n := by
  obtain ⟨h0, gm, T, h1, h2, h3⟩ := h
  rw [← h3] at hr
  unfold relT at hr
  obtain ⟨r, hr1, hr2⟩ := List.any_eq_true.1 hr
  simp only [Bool.and_eq_true, beq_iff_eq] at hr2
  refine ⟨hr2.1 ▸ h2.lt r hr1, ?_⟩
  rcases Nat.lt_or_ge j n with h4 | h4
  · exact h4
  · rw [h2.cl r hr1 j h4] at hr2; cases hr2.2
theorem hasR_none {T : List Row7} {R : Nat → Nat → Bool} (h3 : ∀ i j, relT T i j = R i j) {i : Int} (j : Int) (h : ∀ r ∈ T, (r.i : Int) ≠ i) : hasR R i j = false := by
  unfold hasR
  by_cases h0 : 0 ≤ i
  · rw [← h3, relT_none (fun r hr e => h r hr (by omega)), Bool.and_false]
  · rw [decide_eq_false h0]; rfl
theorem hasR_row {T : List Row7} {gm : Nat} (h2 : RowsAt7 w gm n T) (h3 : ∀ i j, relT T i j = R i j) {r : Row7} (hr : r ∈ T) {i : Int} (e : (r.i : Int) = i) (j : Int) : hasM n r.ws j = hasR R i j := by
  subst e
  unfold hasM hasR
  rw [← h3, Int.toNat_natCast, h2.rel hr, decide_eq_true (show (0 : Int) ≤ (r.i : Int) by omega), Bool.true_and]
  by_cases h0 : 0 ≤ j
  · rw [decide_eq_true h0, Bool.true_and, Bool.true_and]
    by_cases h1 : j < (n : Int)
    · rw [decide_eq_true h1, Bool.true_and]
    · rw [h2.cl r hr j.toNat (by omega), Bool.and_false]
  · rw [decide_eq_false h0]; rfl
end
theorem wpList_lookG {P : Program} {ops : Array Oper} {rest : List Oper} {a : Act} {w : World} {Q : Exit → Act → World → Prop} {d : Option Tmp} {ty t : TypeId} {pos : String} {after : Array Edge} {gd : Option (Nat × Bool)} {m x : Operand} {mv kv v : Value} {ok : Bool}
    (hw : Region.wanted (⟨d, .lookup t m x ok, ty, pos, after, gd⟩ : Oper) (yielded ops a.tmps) = true) (hm : a.eval m = mv) (hx : a.eval x = kv) (hr : (Instr.lookup t mv kv ok).run P w = .ok v w)
    (h : wpList P ops Q rest (a.put d v) w) : wpList P ops Q (⟨d, .lookup t m x ok, ty, pos, after, gd⟩ :: rest) a w :=
  wpList_wanted hw fun _ hK => by
    unfold Oper.wp execOp
    simp only [hm, hx, Sem.run_bind, hr, Result.andThen_ok, Sem.run_pure]
    exact hK _ _ h
set_option maxRecDepth 100000 in
set_option maxHeartbeats 1000000 in
theorem has8_any {w : World} {g n : Nat} {R : Nat → Nat → Bool} (h : RelAt w g n R) (i j : Int) (hi : -9223372036854775808 ≤ i ∧ i ≤ 9223372036854775807) :
    Calls Tryz.prog 63 #[.pointer (some ⟨g, 0, none⟩), .int .i64 i, .int .i64 j] w (Ret w (.bool (hasR R i j))) := by
  obtain ⟨h0, gm, T, hB, hT, h3⟩ := h
  have y1 : w.cell? ⟨g, 1, none⟩ = some (.map (some gm)) := hB.cell 1
  obtain ⟨v, hl, hv⟩ := hT.look i hi
  have HL := Lib.hid (hl w rfl)
  clear hl
  rcases hv with ⟨rfl, hno⟩ | ⟨r, hr, e, rfl⟩
  · have N := Lib.hid (hasR_none (R := R) h3 j hno)
    clear hno h3 hT hB
    go_enter Tryz.func63, Tryz.ntmps63
    go_wp2_with (refine wpList_lookG (by rfl) (by rfl) (by rfl) HL.out ?_)
    refine (has7_nil j w).mono ?_
    rintro e w1 ⟨rfl, rfl⟩
    go_wp2
    go_ret
    exact ⟨ret_bool N.out.symm, rfl⟩
  · have N := Lib.hid (hasR_row (R := R) hT h3 hr e j)
    have HH := Lib.hid (has7_any (hT.row r hr) j)
    clear e hr h3 hT hB
    go_enter Tryz.func63, Tryz.ntmps63
    go_wp2_with (refine wpList_lookG (by rfl) (by rfl) (by rfl) HL.out ?_)
    refine HH.out.mono ?_
    rintro e w1 ⟨rfl, rfl⟩
    go_wp2
    go_ret
    exact ⟨ret_bool N.out, rfl⟩
set_option maxRecDepth 100000 in
set_option maxHeartbeats 1000000 in
theorem len8_any {w : World} {g n : Nat} {R : Nat → Nat → Bool} (h : RelAt w g n R) : Calls Tryz.prog 99 #[.pointer (some ⟨g, 0, none⟩)] w (Ret w (.int .i64 (n : Int))) := by
  obtain ⟨h0, gm, T, hB, hT, h3⟩ := h
  have y0 : w.cell? ⟨g, 0, none⟩ = some (.int .i64 (n : Int)) := hB.cell 0
  clear hB hT h3
  go_enter Tryz.func99, Tryz.ntmps99
  go_wp2
  go_ret
  exact ⟨rfl, rfl⟩
def befR (R : Nat → Nat → Bool) (i j : Nat) : Bool := R i j && !R j i
set_option maxRecDepth 100000 in
set_option maxHeartbeats 1000000 in
theorem before8_any {w : World} {g n : Nat} {R : Nat → Nat → Bool} (h : RelAt w g n R) (i j : Nat) (hi : i ≤ 65536) (hj : j ≤ 65536) :
    Calls Tryz.prog 125 #[.pointer (some ⟨g, 0, none⟩), .int .i64 (i : Int), .int .i64 (j : Int)] w (Ret w (.bool (befR R i j))) := by
  have H1 := Lib.hid (has8_any h i j (by omega))
  have H2 := Lib.hid (has8_any h j i (by omega))
  rw [hasR_nat] at H1 H2
  unfold befR
  clear h
  cases h1 : R i j
  · rw [h1] at H1
    go_enter Tryz.func125, Tryz.ntmps125
    go_wp2_with fail
    refine H1.out.mono ?_
    rintro e w1 ⟨rfl, rfl⟩
    go_wp2
    go_ret
    exact ⟨rfl, rfl⟩
  · rw [h1] at H1
    cases h2 : R j i
    · rw [h2] at H2
      go_enter Tryz.func125, Tryz.ntmps125
      go_wp2_with fail
      refine H1.out.mono ?_
      rintro e w1 ⟨rfl, rfl⟩
      go_wp2_with fail
      refine H2.out.mono ?_
      rintro e w1 ⟨rfl, rfl⟩
      go_wp2
      go_ret
      exact ⟨rfl, rfl⟩
    · rw [h2] at H2
      go_enter Tryz.func125, Tryz.ntmps125
      go_wp2_with fail
      refine H1.out.mono ?_
      rintro e w1 ⟨rfl, rfl⟩
      go_wp2_with fail
      refine H2.out.mono ?_
      rintro e w1 ⟨rfl, rfl⟩
      go_wp2
      go_ret
      exact ⟨rfl, rfl⟩
end Go.Proofs.YtnhbbggpgieipaaGreat

/- The least thing that is alike one: walked. -/
namespace Go.Proofs.YtnhbbggpgieipaaGreat
open Go.RowKit
open Go.MapKept

/-- the least thing that is alike one -/
def groupR (R : Nat → Nat → Bool) (i : Nat) : Nat := ((List.range i).find? fun j => R i j && R j i).getD i
theorem find_range {p : Nat → Bool} {i k : Nat} (hk : k < i) (hp : p k = true) (hn : ∀ j, j < k → p j = false) : (List.range i).find? p = some k := by
  rw [List.find?_eq_some_iff_append]
  refine ⟨hp, List.range k, (List.range' (k + 1) (i - k - 1)), ?_, fun a ha => by rw [hn a (List.mem_range.1 ha)]; rfl⟩
  rw [List.range_eq_range', List.range_eq_range']
  have e : i = k + (1 + (i - k - 1)) := by omega
  rw [e, List.range'_append_1.symm, List.range'_append_1.symm]
  simp
theorem groupR_at {R : Nat → Nat → Bool} {i k : Nat} (hk : k < i) (h1 : R i k = true) (h2 : R k i = true) (hn : ∀ j, j < k → (R i j && R j i) = false) : groupR R i = k := by
  unfold groupR
  rw [find_range hk (by rw [h1, h2]; rfl) hn]; rfl
theorem groupR_none {R : Nat → Nat → Bool} {i : Nat} (hn : ∀ j, j < i → (R i j && R j i) = false) : groupR R i = i := by
  unfold groupR
  rw [List.find?_eq_none.2 fun j hj => by rw [hn j (List.mem_range.1 hj)]; simp]; rfl
theorem groupR_le (R : Nat → Nat → Bool) (i : Nat) : groupR R i ≤ i := by
  unfold groupR
  cases h : (List.range i).find? fun j => R i j && R j i with
  | none => exact Nat.le_refl _
  | some k => exact Nat.le_of_lt (List.mem_range.1 (List.mem_of_find?_eq_some h))
set_option maxRecDepth 100000 in
set_option maxHeartbeats 1000000 in
theorem fits8_any (i n : Int) (w : World) : Calls Tryz.prog 93 #[.int .i64 i, .int .i64 n] w (Ret w (.bool (decide (0 ≤ i) && decide (i < n)))) := by
  by_cases h0 : 0 ≤ i
  · rw [decide_eq_true h0, Bool.true_and]
    by_cases h1 : i < n
    · have e1 := decide_eq_true h1
      go_enter Tryz.func93, Tryz.ntmps93
      go_wp2
      go_ret
      exact ⟨ret_bool e1.symm, rfl⟩
    · have e1 := decide_eq_false h1
      go_enter Tryz.func93, Tryz.ntmps93
      go_wp2
      go_ret
      exact ⟨rfl, rfl⟩
  · rw [decide_eq_false h0, Bool.false_and]
    go_enter Tryz.func93, Tryz.ntmps93
    go_wp2
    go_ret
    exact ⟨rfl, rfl⟩
set_option maxRecDepth 100000 in
set_option maxHeartbeats 1000000 in
theorem next7_nil (i : Int) (w : World) : Calls Tryz.prog 126 #[.pointer none, .int .i64 i] w (Ret w (.int .i64 (-1))) := by
  have h0 : (0 : Int) ≤ max i 0 := by omega
  go_enter Tryz.func126, Tryz.ntmps126
  go_wp2_with fail
  refine (room7_nil w).mono ?_
  rintro e w1 ⟨rfl, rfl⟩
  go_wp2
  go_ret
  exact ⟨rfl, rfl⟩
set_option maxRecDepth 100000 in
set_option maxHeartbeats 2000000 in
theorem group8_any {w : World} {g n : Nat} {R : Nat → Nat → Bool} (h : RelAt w g n R) (i : Nat) (hi : i < n) :
    Calls Tryz.prog 100 #[.pointer (some ⟨g, 0, none⟩), .int .i64 (i : Int)] w (Ret w (.int .i64 ((groupR R i : Nat) : Int))) := by
  have HH := Lib.hid (fun (a b : Nat) (ha : a ≤ 65536) => has8_any h a b (by omega))
  have HLen := Lib.hid (len8_any h)
  have HF := Lib.hid (fun u => fits8_any i n u)
  rw [decide_eq_true (show (0 : Int) ≤ (i : Int) by omega), decide_eq_true (show (i : Int) < (n : Int) by omega), Bool.and_self] at HF
  obtain ⟨h0, gm, T, hB, hT, h3⟩ := h
  have y1 : w.cell? ⟨g, 1, none⟩ = some (.map (some gm)) := hB.cell 1
  obtain ⟨v, hl, hv⟩ := hT.look i (by omega)
  have HL := Lib.hid (hl w rfl)
  clear hl
  rcases hv with ⟨rfl, hno⟩ | ⟨r, hr, e, rfl⟩
  · have N : Hid (groupR R i = i) := groupR_none fun j _ => by
      have := hasR_none (R := R) h3 (i := i) j hno
      rw [hasR_nat] at this
      rw [this]; rfl
    clear hno h3 hT hB
    go_enter Tryz.func100, Tryz.ntmps100
    go_wp2_with fail
    refine HLen.out.mono ?_
    rintro e w1 ⟨rfl, rfl⟩
    go_wp2_with fail
    refine (HF.out _).mono ?_
    rintro e w1 ⟨rfl, rfl⟩
    go_wp2_with (refine wpList_lookG (by rfl) (by rfl) (by rfl) HL.out ?_)
    refine (next7_nil 0 w).mono ?_
    rintro e w1 ⟨rfl, rfl⟩
    go_wp2_with fail
    go_loop [5] (fun v => v = .int .i64 (-1)) (fun _ => 0)
    case atStart => rfl
    case round =>
      subst hrel
      go_wp2
      go_ret
      exact ⟨by rw [N.out]; rfl, rfl⟩
  · have HN := Lib.hid (fun (a : Int) (f : Nat) (hf : max a 0 = (f : Int)) => next7_any (hT.row r hr) (hT.cl r hr) a f hf)
    have RB : Hid (∀ j, R i j = bitAt r.ws j) := fun j => by
      have := hT.rel hr j
      rw [h3] at this
      rw [← this]
      congr 1
      omega
    clear e h3 hT hB hr
    generalize r.ws = ws at *
    go_enter Tryz.func100, Tryz.ntmps100
    go_wp2_with fail
    refine HLen.out.mono ?_
    rintro e w1 ⟨rfl, rfl⟩
    go_wp2_with fail
    refine (HF.out _).mono ?_
    rintro e w1 ⟨rfl, rfl⟩
    go_wp2_with (refine wpList_lookG (by rfl) (by rfl) (by rfl) HL.out ?_)
    refine (HN.out 0 0 (by omega)).mono ?_
    rintro e w1 ⟨q, rfl, rfl, hq⟩
    have Q0 := Lib.hid hq
    clear hq
    go_wp2_with fail
    go_loop [5] (fun v => ∃ (f : Nat) (q : Int), v = .int .i64 q ∧ Hid (NextP n ws f q) ∧ Hid (∀ j, j < f → j < i → (R i j && R j i) = false)) (fun v => if intOf v < 0 then 0 else (n + 1 - intOf v).toNat)
    case atStart => exact ⟨0, q, rfl, Q0.out, fun j h => by omega⟩
    case round =>
      clear Q0
      obtain ⟨f, q, rfl, Q, D⟩ := hrel
      rcases Q.out with ⟨rfl, hno⟩ | ⟨k, rfl, hfk, hkn, hb, hno⟩
      · have N : Hid (groupR R i = i) := groupR_none fun j hj => by
          rcases Nat.lt_or_ge j f with h1 | h1
          · exact D.out j h1 hj
          · rw [RB.out, hno j h1 (by omega)]; rfl
        clear hno Q D
        go_wp2
        go_ret
        exact ⟨by rw [N.out]; rfl, rfl⟩
      · have hk0 : (0 : Int) ≤ (k : Int) := by omega
        by_cases hki : k < i
        · have hki' : (k : Int) < (i : Int) := by omega
          have HK := Lib.hid (HH.out k i (by omega))
          rw [hasR_nat] at HK
          cases hr : R k i
          · rw [hr] at HK
            have D2 : Hid (∀ j, j < k + 1 → j < i → (R i j && R j i) = false) := fun j h1 h2 => by
              rcases Nat.lt_or_ge j f with h4 | h4
              · exact D.out j h4 h2
              · rcases Nat.lt_or_ge j k with h5 | h5
                · rw [RB.out, hno j h4 h5]; rfl
                · obtain rfl : j = k := by omega
                  rw [hr, Bool.and_false]
            have HN2 := Lib.hid (HN.out ((k : Int) + 1) (k + 1) (by omega))
            clear hno Q D hb hr
            go_wp2_with fail
            refine HK.out.mono ?_
            rintro e w1 ⟨rfl, rfl⟩
            go_wp2_with (refine wpList_lookG (by rfl) (by rfl) (by rfl) HL.out ?_)
            refine HN2.out.mono ?_
            rintro e w1 ⟨q, rfl, rfl, hq⟩
            have Q := Lib.hid hq
            have hm : Hid ((if q < 0 then 0 else ((n : Int) + 1 - q).toNat) < (if (k : Int) < 0 then 0 else ((n : Int) + 1 - (k : Int)).toNat)) := by
              rcases hq with ⟨rfl, _⟩ | ⟨m, rfl, h1, h2, _, _⟩
              · rw [Hid, if_pos (by omega), if_neg (by omega)]; omega
              · rw [Hid, if_neg (by omega), if_neg (by omega)]; omega
            clear hq
            go_wp2_with fail
            go_round
            case rel => exact ⟨k + 1, q, rfl, Q.out, D2.out⟩
            case measure => exact hm.out
          · rw [hr] at HK
            have N : Hid (groupR R i = k) := groupR_at hki (by rw [RB.out]; exact hb) hr fun j hj => by
              rcases Nat.lt_or_ge j f with h4 | h4
              · exact D.out j h4 (by omega)
              · rw [RB.out, hno j h4 hj]; rfl
            clear hno Q D hb hr
            go_wp2_with fail
            refine HK.out.mono ?_
            rintro e w1 ⟨rfl, rfl⟩
            go_wp2
            go_ret
            exact ⟨by rw [N.out]; rfl, rfl⟩
        · have hki' : ¬ (k : Int) < (i : Int) := by omega
          have N : Hid (groupR R i = i) := groupR_none fun j hj => by
            rcases Nat.lt_or_ge j f with h1 | h1
            · exact D.out j h1 hj
            · rw [RB.out, hno j h1 (by omega)]; rfl
          clear hno Q D hb
          go_wp2
          go_ret
          exact ⟨by rw [N.out]; rfl, rfl⟩
end Go.Proofs.YtnhbbggpgieipaaGreat

/- Things one behind another, group by group, whichever comes ahead: plain law; no program in sight. -/
namespace Go.Proofs.YtnhbbggpgieipaaGreat
open Go.RowKit

/-- a relation of things below n, closed -/
structure TransR (n : Nat) (R : Nat → Nat → Bool) : Prop where
  trans : ∀ {a b c : Nat}, R a b = true → R b c = true → R a c = true
  lt : ∀ {a b : Nat}, R a b = true → a < n ∧ b < n
section
variable {n : Nat} {R : Nat → Nat → Bool}
theorem groupR_like (R : Nat → Nat → Bool) (i : Nat) : groupR R i = i ∨ (groupR R i < i ∧ R i (groupR R i) = true ∧ R (groupR R i) i = true) := by
  unfold groupR
  cases h : (List.range i).find? fun j => R i j && R j i with
  | none => exact .inl rfl
  | some k =>
    have h1 := List.find?_some h
    simp only [Bool.and_eq_true] at h1
    exact .inr ⟨List.mem_range.1 (List.mem_of_find?_eq_some h), h1.1, h1.2⟩
theorem groupR_least {i j : Nat} (h : R i j = true ∧ R j i = true) (hj : j < i) : groupR R i ≤ j := by
  unfold groupR
  cases hf : (List.range i).find? fun j => R i j && R j i with
  | none =>
    have := List.find?_eq_none.1 hf j (List.mem_range.2 hj)
    rw [h.1, h.2] at this; exact absurd rfl this
  | some k =>
    show k ≤ j
    rcases Nat.lt_or_ge j k with h1 | h1
    · obtain ⟨_, l1, l2, e, h2⟩ := List.find?_eq_some_iff_append.1 hf
      have hka : l1 = List.range k := by
        have hlen : l1.length = k := by
          have h5 : (List.range i)[l1.length]? = some k := by rw [e]; simp
          rw [List.getElem?_range (by
            have := congrArg List.length e; simp at this; omega)] at h5
          exact Option.some.inj h5
        have h6 := congrArg (List.take l1.length) e
        rw [List.take_left, List.take_range] at h6
        have hki : k < i := by
          have := congrArg List.length e; simp at this; omega
        rw [← h6, hlen, Nat.min_eq_left (by omega)]
      have := h2 j (hka ▸ List.mem_range.2 h1)
      rw [h.1, h.2] at this; exact absurd this (by decide)
    · exact h1
theorem groupR_idem (T : TransR n R) (i : Nat) : groupR R (groupR R i) = groupR R i := by
  rcases groupR_like R i with h | ⟨h1, h2, h3⟩
  · rw [h, h]
  · rcases groupR_like R (groupR R i) with h | ⟨k1, k2, k3⟩
    · exact h
    · have := groupR_least (R := R) (i := i) (j := groupR R (groupR R i)) ⟨T.trans h2 k2, T.trans k3 h3⟩ (by omega)
      omega
theorem groupR_lt {i : Nat} (h : i < n) : groupR R i < n := Nat.lt_of_le_of_lt (groupR_le R i) h
/-- a group's things -/
def grpL (R : Nat → Nat → Bool) (n g : Nat) : List Nat := (List.range n).filter fun i => groupR R i == g
theorem mem_grpL {g i : Nat} : i ∈ grpL R n g ↔ i < n ∧ groupR R i = g := by simp [grpL]
theorem grpL_nodup (R : Nat → Nat → Bool) (n g : Nat) : (grpL R n g).Nodup := List.nodup_range.filter _
theorem grpL_nil (T : TransR n R) {g : Nat} (hg : g < n) : grpL R n g = [] ↔ groupR R g ≠ g := by
  constructor
  · intro h e
    have : g ∈ grpL R n g := mem_grpL.2 ⟨hg, e⟩
    rw [h] at this; cases this
  · intro h
    rw [List.eq_nil_iff_forall_not_mem]
    intro i hi
    obtain ⟨_, rfl⟩ := mem_grpL.1 hi
    exact h (groupR_idem T i)
/-- may a group come now? -/
def freeR (R : Nat → Nat → Bool) (n : Nat) (out : List Nat) (g : Nat) : Bool := (List.range n).all fun j => !befR R j g || decide (j ∈ out)
def mayG (R : Nat → Nat → Bool) (n : Nat) (out : List Nat) (g : Nat) : Bool := (groupR R g == g) && (!(decide (g ∈ out)) && freeR R n out g)
def pickG (R : Nat → Nat → Bool) (n : Nat) (out : List Nat) : Nat := ((List.range n).find? (mayG R n out)).getD n
/-- what is told after some rounds -/
def ordAt (R : Nat → Nat → Bool) (n : Nat) : Nat → List Nat
  | 0 => []
  | k + 1 => if (ordAt R n k).length < n then ordAt R n k ++ grpL R n (pickG R n (ordAt R n k)) else ordAt R n k
theorem ordAt_succ (R : Nat → Nat → Bool) (n k : Nat) : ordAt R n (k + 1) = if (ordAt R n k).length < n then ordAt R n k ++ grpL R n (pickG R n (ordAt R n k)) else ordAt R n k := rfl
/-- all, one behind another -/
def ordR (R : Nat → Nat → Bool) (n : Nat) : List Nat := ordAt R n n
structure Told (R : Nat → Nat → Bool) (n : Nat) (out : List Nat) : Prop where
  nodup : out.Nodup
  lt : ∀ i ∈ out, i < n
  grp : ∀ i, i < n → (i ∈ out ↔ groupR R i ∈ out)
theorem befR_lt (T : TransR n R) {a b : Nat} (h : befR R a b = true) : a < n ∧ b < n := by
  unfold befR at h
  simp only [Bool.and_eq_true] at h
  exact T.lt h.1
theorem befR_trans (T : TransR n R) {a b c : Nat} (h : befR R a b = true) (h2 : befR R b c = true) : befR R a c = true := by
  unfold befR at *
  simp only [Bool.and_eq_true, Bool.not_eq_true'] at *
  refine ⟨T.trans h.1 h2.1, ?_⟩
  cases hc : R c a
  · rfl
  · rw [T.trans hc h.1] at h2; exact absurd h2.2 (by decide)
theorem befR_irr (R : Nat → Nat → Bool) (a : Nat) : befR R a a = false := by
  unfold befR; cases R a a <;> rfl
def cntB (R : Nat → Nat → Bool) (n i : Nat) : Nat := ((List.range n).filter fun j => befR R j i).length
theorem cntB_lt (T : TransR n R) {i j : Nat} (h : befR R j i = true) : cntB R n j < cntB R n i := by
  unfold cntB
  have hs : ((List.range n).filter fun k => befR R k j).Sublist ((List.range n).filter fun k => befR R k i) := by
    have e : ((List.range n).filter fun k => befR R k j) = (((List.range n).filter fun k => befR R k i).filter fun k => befR R k j) := by
      rw [List.filter_filter]
      refine List.filter_congr fun k _ => ?_
      cases hk : befR R k j
      · rfl
      · rw [befR_trans T hk h]; rfl
    rw [e]; exact List.filter_sublist
  rcases Nat.lt_or_ge ((List.range n).filter fun k => befR R k j).length ((List.range n).filter fun k => befR R k i).length with h1 | h1
  · exact h1
  · have e := hs.eq_of_length_le h1
    have hj : j ∈ (List.range n).filter fun k => befR R k i := List.mem_filter.2 ⟨List.mem_range.2 (befR_lt T h).1, h⟩
    rw [← e] at hj
    have := (List.mem_filter.1 hj).2
    rw [befR_irr] at this; cases this
theorem least_left (T : TransR n R) {out : List Nat} : ∀ (m i : Nat), cntB R n i ≤ m → i < n → i ∉ out → ∃ k, k < n ∧ k ∉ out ∧ ∀ j, befR R j k = true → j ∈ out
  | 0, i, hm, hi, ho => ⟨i, hi, ho, fun j hj => by have := cntB_lt T hj; omega⟩
  | m + 1, i, hm, hi, ho => by
    by_cases h : ∀ j, befR R j i = true → j ∈ out
    · exact ⟨i, hi, ho, h⟩
    · obtain ⟨j, hj, hjo⟩ : ∃ j, befR R j i = true ∧ j ∉ out := Classical.byContradiction fun hc => h fun j hj => Classical.byContradiction fun hn => hc ⟨j, hj, hn⟩
      exact least_left T m j (by have := cntB_lt T hj; omega) (befR_lt T hj).1 hjo
theorem pigeon {out : List Nat} (h : out.length < n) : ∃ i, i < n ∧ i ∉ out := by
  refine Classical.byContradiction fun hc => ?_
  have hs : ∀ i ∈ List.range n, i ∈ out := fun i hi => Classical.byContradiction fun hn => hc ⟨i, List.mem_range.1 hi, hn⟩
  have := (List.nodup_range (n := n)).length_le_of_subset hs
  rw [List.length_range] at this
  omega
/-- some group may come, unless all is told -/
theorem pick_there (T : TransR n R) {out : List Nat} (hT : Told R n out) (h : out.length < n) : ∃ g, (List.range n).find? (mayG R n out) = some g ∧ pickG R n out = g ∧ g < n ∧ mayG R n out g = true := by
  obtain ⟨i, hi, hio⟩ := pigeon h
  obtain ⟨k, hk, hko, hkb⟩ := least_left T _ i (Nat.le_refl _) hi hio
  have hm : mayG R n out (groupR R k) = true := by
    unfold mayG
    rw [groupR_idem T, beq_self_eq_true, Bool.true_and, Bool.and_eq_true, Bool.not_eq_true', decide_eq_false_iff_not]
    refine ⟨fun hc => hko ((hT.grp k hk).2 hc), ?_⟩
    unfold freeR
    rw [List.all_eq_true]
    intro j _
    cases hb : befR R j (groupR R k)
    · rfl
    · rw [Bool.not_true, Bool.false_or, decide_eq_true_eq]
      rcases groupR_like R k with e | ⟨_, h2, h3⟩
      · rw [e] at hb; exact hkb j hb
      · refine hkb j ?_
        unfold befR at hb ⊢
        simp only [Bool.and_eq_true, Bool.not_eq_true'] at hb ⊢
        refine ⟨T.trans hb.1 h3, ?_⟩
        cases hc : R k j
        · rfl
        · rw [T.trans h3 hc] at hb; exact absurd hb.2 (by decide)
  cases hf : (List.range n).find? (mayG R n out) with
  | none => exact absurd hm (List.find?_eq_none.1 hf _ (List.mem_range.2 (groupR_lt hk)))
  | some g => exact ⟨g, rfl, by unfold pickG; rw [hf]; rfl, List.mem_range.1 (List.mem_of_find?_eq_some hf), List.find?_some hf⟩
theorem Told.more (T : TransR n R) {out : List Nat} (hT : Told R n out) {g : Nat} (hg : mayG R n out g = true) (hgn : g < n) : Told R n (out ++ grpL R n g) ∧ out.length < (out ++ grpL R n g).length := by
  unfold mayG at hg
  simp only [Bool.and_eq_true, beq_iff_eq, Bool.not_eq_true', decide_eq_false_iff_not] at hg
  refine ⟨⟨List.nodup_append.2 ⟨hT.nodup, grpL_nodup _ _ _, fun a ha b hb => ?_⟩, fun i hi => ?_, fun i hi => ?_⟩, ?_⟩
  · rintro rfl
    obtain ⟨h1, h2⟩ := mem_grpL.1 hb
    exact hg.2.1 (h2 ▸ (hT.grp a h1).1 ha)
  · rcases List.mem_append.1 hi with h | h
    · exact hT.lt i h
    · exact (mem_grpL.1 h).1
  · rw [List.mem_append, List.mem_append, mem_grpL, mem_grpL, hT.grp i hi, groupR_idem T]
    constructor
    · rintro (h | ⟨_, h⟩)
      · exact .inl h
      · exact .inr ⟨groupR_lt hi, h⟩
    · rintro (h | ⟨_, h⟩)
      · exact .inl h
      · exact .inr ⟨hi, h⟩
  · rw [List.length_append]
    have : g ∈ grpL R n g := mem_grpL.2 ⟨hgn, hg.1⟩
    have := List.length_pos_of_mem this
    omega
theorem ordAt_told (T : TransR n R) : ∀ k, Told R n (ordAt R n k) ∧ (k ≤ (ordAt R n k).length ∨ (ordAt R n k).length = n)
  | 0 => ⟨⟨List.nodup_nil, by simp [ordAt], by simp [ordAt]⟩, .inl (Nat.zero_le _)⟩
  | k + 1 => by
    obtain ⟨h1, h2⟩ := ordAt_told T k
    have hle : (ordAt R n k).length ≤ n := by
      have := h1.nodup.length_le_of_subset (l₂ := List.range n) (fun i hi => List.mem_range.2 (h1.lt i hi))
      rwa [List.length_range] at this
    unfold ordAt
    split
    · rename_i hlt
      obtain ⟨g, _, e, hg, hm⟩ := pick_there T h1 hlt
      rw [e]
      obtain ⟨m1, m2⟩ := h1.more T hm hg
      exact ⟨m1, .inl (by omega)⟩
    · exact ⟨h1, .inr (by omega)⟩
theorem Told.le {out : List Nat} (hT : Told R n out) : out.length ≤ n := by
  have := hT.nodup.length_le_of_subset (l₂ := List.range n) (fun i hi => List.mem_range.2 (hT.lt i hi))
  rwa [List.length_range] at this
theorem ordAt_stay {k : Nat} (h : (ordAt R n k).length = n) : ∀ m, ordAt R n (k + m) = ordAt R n k
  | 0 => rfl
  | m + 1 => by
    show ordAt R n (k + m + 1) = _
    rw [ordAt_succ, ordAt_stay h m, if_neg (by omega)]
theorem ordR_told (T : TransR n R) : Told R n (ordR R n) ∧ (ordR R n).length = n := by
  obtain ⟨h1, h2⟩ := ordAt_told T n
  refine ⟨h1, ?_⟩
  have := h1.le
  unfold ordR
  omega
theorem ordAt_done (T : TransR n R) {k : Nat} (h : ¬ (ordAt R n k).length < n) : ordAt R n k = ordR R n := by
  have h1 : (ordAt R n k).length = n := by have := (ordAt_told T k).1.le; omega
  have h2 := (ordR_told T).2
  unfold ordR at *
  rcases Nat.le_total k n with c | c
  · obtain ⟨m, rfl⟩ := Nat.exists_eq_add_of_le c
    exact (ordAt_stay h1 m).symm
  · obtain ⟨m, rfl⟩ := Nat.exists_eq_add_of_le c
    exact ordAt_stay h2 m
theorem ordAt_next {k : Nat} (h : (ordAt R n k).length < n) : ordAt R n (k + 1) = ordAt R n k ++ grpL R n (pickG R n (ordAt R n k)) := by
  rw [ordAt, if_pos h]
end
end Go.Proofs.YtnhbbggpgieipaaGreat

/- Rows of a relation as they lie: a row more, a row's words written. -/
namespace Go.Proofs.YtnhbbggpgieipaaGreat
open Go.RowKit
open Go.MapKept
open Go.ChangeMaps (setBlock)

theorem intSlH : SlT Tryz.prog 110 3 1 8 := slT_of Tryz.underlying110 (z := .int .i64 0) (by kernel_rfl) rfl (by omega)
theorem entR_snoc (T : List Row7) (r : Row7) : entR (T ++ [r]) = entR T ++ [(.int .i64 (r.i : Int), .pointer (some ⟨r.g, 0, none⟩))] := by unfold entR; rw [List.map_append]; rfl
theorem relT_snoc (T : List Row7) (r : Row7) (a b : Nat) : relT (T ++ [r]) a b = (relT T a b || ((r.i == a) && bitAt r.ws b)) := by
  unfold relT; rw [List.any_append]; simp
section
variable {w w' : World} {gm n : Nat} {T : List Row7}
/-- a row more -/
theorem RowsAt7.add (h : RowsAt7 w gm n T) {i g gw : Nat} {ws : List Nat} (hi : i < n) (hn : n ≤ 65536) (hno : ∀ r ∈ T, r.i ≠ i) (hm : MaskAt w g gw n ws) (hc : CleanW n ws) (hg : ∀ r ∈ T, r.g ≠ g ∧ r.gw ≠ gw) :
    ∃ o, (Instr.mapUpdate 130 (.map (some gm)) (.int .i64 (i : Int)) (.pointer (some ⟨g, 0, none⟩))).run Tryz.prog w = .ok () (setBlock w gm o) ∧ RowsAt7 (setBlock w gm o) gm n (T ++ [⟨i, g, gw, ws⟩]) := by
  obtain ⟨o, l', hrun, hput, hM⟩ := h.map.putK (val := .pointer (some ⟨g, 0, none⟩)) kLawN kMapM (kKeyN (i := (i : Int)) (by omega))
  have hl : l' = entR (T ++ [⟨i, g, gw, ws⟩]) := by
    rw [entR_snoc]
    rcases hput with ⟨_, e⟩ | ⟨j, v0, hj, _⟩
    · exact e
    · obtain ⟨r, hr, e⟩ := List.mem_map.1 (List.mem_of_getElem? hj)
      simp only [Prod.mk.injEq, Value.int.injEq, true_and] at e
      exact absurd (by have := e.1; omega) (hno r hr)
  subst hl
  have kp : ∀ {g' gw' : Nat} {ws' : List Nat}, MaskAt w g' gw' n ws' → MaskAt (setBlock w gm o) g' gw' n ws' := fun k =>
    k.keep (setBlock_other (blk_ne_map k.blk h.map)) (setBlock_other (own_ne_map k.own h.map rfl))
  refine ⟨o, hrun, hM, fun r hr => ?_, fun r hr => ?_, fun r hr => ?_, ?_⟩
  · rcases List.mem_append.1 hr with hr | hr
    · exact kp (h.row r hr)
    · rw [List.mem_singleton] at hr; subst hr; exact kp hm
  · rcases List.mem_append.1 hr with hr | hr
    · exact h.cl r hr
    · rw [List.mem_singleton] at hr; subst hr; exact hc
  · rcases List.mem_append.1 hr with hr | hr
    · exact h.lt r hr
    · rw [List.mem_singleton] at hr; subst hr; exact hi
  · refine List.pairwise_append.2 ⟨h.ap, List.pairwise_singleton _ _, fun a ha b hb => ?_⟩
    rw [List.mem_singleton] at hb
    subst hb
    exact ⟨hno a ha, (hg a ha).1, (hg a ha).2⟩
/-- one row's words are written -/
def updT (T : List Row7) (i : Nat) (ws : List Nat) : List Row7 := T.map fun s => if s.i = i then ⟨s.i, s.g, s.gw, ws⟩ else s
theorem updT_i (T : List Row7) (i : Nat) (ws : List Nat) : (updT T i ws).map (·.i) = T.map (·.i) := by
  unfold updT
  rw [List.map_map]
  refine List.map_congr_left fun s _ => ?_
  simp only [Function.comp]
  split <;> rfl
theorem updT_mem {i : Nat} {ws : List Nat} {r : Row7} (h : r ∈ updT T i ws) : ∃ s ∈ T, r.i = s.i ∧ r.g = s.g ∧ r.gw = s.gw ∧ ((s.i = i ∧ r.ws = ws) ∨ (s.i ≠ i ∧ r = s)) := by
  unfold updT at h
  obtain ⟨s, hs, rfl⟩ := List.mem_map.1 h
  refine ⟨s, hs, ?_⟩
  split
  · rename_i e; exact ⟨rfl, rfl, rfl, .inl ⟨e, rfl⟩⟩
  · rename_i e; exact ⟨rfl, rfl, rfl, .inr ⟨e, rfl⟩⟩
theorem entR_upd (T : List Row7) (i : Nat) (ws : List Nat) : entR (updT T i ws) = entR T := by
  unfold entR updT
  rw [List.map_map]
  refine List.map_congr_left fun s _ => ?_
  simp only [Function.comp]
  split <;> rfl
theorem RowsAt7.upd (h : RowsAt7 w gm n T) {r : Row7} (hr : r ∈ T) {ws : List Nat} (hm : MaskAt w' r.g r.gw n ws) (hc : CleanW n ws) (hk : Kept (fun k => k = r.gw) w w') : RowsAt7 w' gm n (updT T r.i ws) := by
  have hgm : gm ≠ r.gw := (own_ne_map (h.row r hr).own h.map rfl).symm
  refine ⟨?_, fun s hs => ?_, fun s hs => ?_, fun s hs => ?_, ?_⟩
  · rw [entR_upd]
    exact h.map.keep (hk.block gm h.map.lt hgm)
  · obtain ⟨t, ht, e1, e2, e3, e4⟩ := updT_mem hs
    rcases e4 with ⟨e4, e5⟩ | ⟨e4, rfl⟩
    · obtain rfl := h.one ht hr e4
      rw [e2, e3, e5]; exact hm
    · have hp : s.g ≠ r.gw ∧ s.gw ≠ r.gw := by
        refine ⟨(own_ne_blk (h.row r hr).own (h.row s ht).blk (by decide) rfl).symm, fun e => e4 ?_⟩
        obtain ⟨i, hi, rfl⟩ := List.getElem_of_mem hr
        obtain ⟨j, hj, rfl⟩ := List.getElem_of_mem ht
        have hp := List.pairwise_iff_getElem.1 h.ap
        rcases Nat.lt_trichotomy i j with c | c | c
        · exact absurd e.symm (hp i j hi hj c).2.2
        · subst c; rfl
        · exact absurd e (hp j i hj hi c).2.2
      exact (h.row s ht).keep (hk.block _ (h.row s ht).lt.1 hp.1) (hk.block _ (h.row s ht).lt.2 hp.2)
  · obtain ⟨t, ht, e1, e2, e3, e4⟩ := updT_mem hs
    rcases e4 with ⟨e4, e5⟩ | ⟨e4, rfl⟩
    · rw [e5]; exact hc
    · exact h.cl s ht
  · obtain ⟨t, ht, e1, _⟩ := updT_mem hs
    rw [e1]; exact h.lt t ht
  · unfold updT
    rw [List.pairwise_map]
    refine h.ap.imp fun {a b} hab => ?_
    split <;> split <;> exact hab
theorem relT_upd {r : Row7} (hr : r ∈ T) (ws : List Nat) (a b : Nat) : relT (updT T r.i ws) a b = if a = r.i then bitAt ws b else relT T a b := by
  unfold relT updT
  rw [List.any_map]
  split
  · rename_i e
    subst e
    cases hb : bitAt ws b
    · rw [List.any_eq_false]
      intro s hs
      simp only [Function.comp]
      split
      · simp [hb]
      · rename_i e; simp [e]
    · rw [List.any_eq_true]
      exact ⟨r, hr, by simp [hb]⟩
  · rename_i e
    congr 1
    funext s
    simp only [Function.comp]
    split
    · rename_i e2
      have : (s.i == a) = false := by simp; omega
      rw [this]; rfl
    · rfl
end
end Go.Proofs.YtnhbbggpgieipaaGreat
