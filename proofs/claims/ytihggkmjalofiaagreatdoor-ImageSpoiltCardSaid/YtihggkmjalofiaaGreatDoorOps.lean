/- Texts of general use, one behind another. -/
import Derived.Test.YtihggkmjalofiaaGreatDoorVids
import Derived.Test.YtihggkmjalofiaaGreatDoorOpgz
import Derived.Test.YtihggkmjalofiaaGreatDoorSets
import Derived.Test.YtihggkmjalofiaaGreatDoorGen

/- Operations and patches as they lie in memory. -/
namespace Go.Proofs.YtihggkmjalofiaaGreatDoor
open Go.RowKit

/-- an operation: its kind, the vertices that it names, its text -/
abbrev OpV := Fin 256 × VidV × VidV × ByteArray
def encO (o : OpV) : List Value := [.int .u8 ((o.1.val : Nat) : Int), .int .u8 ((o.2.1.1.1.val : Nat) : Int), .int .u16 ((o.2.1.1.2.val : Nat) : Int), .int .u8 ((o.2.1.2.val : Nat) : Int), .int .u8 ((o.2.2.1.1.1.val : Nat) : Int), .int .u16 ((o.2.2.1.1.2.val : Nat) : Int), .int .u8 ((o.2.2.1.2.val : Nat) : Int), .string o.2.2.2]
def OpV.ok (o : OpV) : Prop := o.2.2.2.size ≤ maxLen
theorem encO_len (o : OpV) : (encO o).length = 8 := rfl
theorem encO_one (o : OpV) : ∀ u ∈ encO o, u.oneCell' = true := by
  intro u hu
  simp only [encO, List.mem_cons, List.not_mem_nil, or_false] at hu
  rcases hu with rfl | rfl | rfl | rfl | rfl | rfl | rfl | rfl <;> rfl
theorem underOp : Tryz.prog.underlying 122 = some (.struct (Tryz.prog.fieldsOf 122)) := by kernel_rfl
theorem infoOp : (Tryz.prog.info? 122).map (·.size) = some 8 := by kernel_rfl
theorem opSl : SlT Tryz.prog 29 122 8 32 := slT_of (z := .agg #[.int .u8 0, .int .u8 0, .int .u16 0, .int .u8 0, .int .u8 0, .int .u16 0, .int .u8 0, .string ByteArray.empty]) Tryz.underlying29 (by kernel_rfl) rfl (by omega)
def oldV (v : VidV) : VidO := ⟨((v.1.1.val : Nat) : Int), ((v.1.2.val : Nat) : Int), ((v.2.val : Nat) : Int)⟩
theorem oldV_ok (v : VidV) : (oldV v).ok :=
  ⟨⟨Int.natCast_nonneg _, by have := v.1.1.isLt; show ((v.1.1.val : Nat) : Int) < 256; omega⟩, ⟨Int.natCast_nonneg _, by have := v.1.2.isLt; show ((v.1.2.val : Nat) : Int) < 65536; omega⟩, ⟨Int.natCast_nonneg _, by have := v.2.isLt; show ((v.2.val : Nat) : Int) < 256; omega⟩⟩
/-- the vertices that an operation names -/
def refsO (o : OpV) : List VidV := if o.1.val = 2 ∨ o.1.val = 3 ∨ o.1.val = 5 then [o.2.1] else if o.1.val = 4 then [o.2.1, o.2.2.1] else []
theorem refsO_le (o : OpV) : (refsO o).length ≤ 2 := by unfold refsO; split; simp; split <;> simp
theorem refsO_old (o : OpV) : refsV ((o.1.val : Nat) : Int) (oldV o.2.1) (oldV o.2.2.1) = (refsO o).map oldV := by
  unfold refsV refsO
  by_cases h1 : o.1.val = 2 ∨ o.1.val = 3 ∨ o.1.val = 5
  · rw [if_pos h1, if_pos (by omega)]; rfl
  · rw [if_neg h1, if_neg (by omega)]
    by_cases h2 : o.1.val = 4
    · rw [if_pos h2, if_pos (by omega)]; rfl
    · rw [if_neg h2, if_neg (by omega)]; rfl
theorem old_flat (l : List VidV) : (l.map oldV).flatMap VidO.cs = l.flatMap encV := by
  rw [List.flatMap_map]; rfl
def RetVs (w : World) (l : List VidV) (e : Ending) (w' : World) : Prop := ∃ A c, e = .returned (.slice A l.length c) ∧ l.length ≤ c ∧ VidsAt w' A l.length l ∧ Below w.heap.size w w'
theorem refsN (o : OpV) (w : World) : Calls Tryz.prog 157 #[.agg (encO o).toArray] w (RetVs w (refsO o)) := by
  have h := refs_any ((o.1.val : Nat) : Int) (oldV o.2.1) (oldV o.2.2.1) o.2.2.2 w ⟨by omega, by have := o.1.isLt; omega⟩
  rw [refsO_old, old_flat, List.length_map] at h
  exact h.mono fun _ _ ⟨A, c, he, hc, hs, hb⟩ => ⟨A, c, he, hc, ⟨rfl, hs⟩, hb⟩
def goodO (id : PidV) (i : Int) (o : OpV) : Bool := opGood ((id.1.val : Nat) : Int) ((id.2.val : Nat) : Int) i ((o.1.val : Nat) : Int) (oldV o.2.1) (oldV o.2.2.1) o.2.2.2
theorem goodN (id : PidV) (i : Int) (o : OpV) (ho : o.ok) (w : World) : Calls Tryz.prog 183 #[.agg (encP id).toArray, .int .i64 i, .agg (encO o).toArray] w (RetB w (.bool (goodO id i o))) :=
  good_any _ _ _ _ _ _ _ w ⟨by omega, by have := id.1.isLt; omega⟩ ⟨by omega, by have := id.2.isLt; omega⟩ ⟨by omega, by have := o.1.isLt; omega⟩ (oldV_ok _) (oldV_ok _) ho
/-- operations in a slice -/
structure OpsAt (w : World) (A : Option Addr) (n : Nat) (l : List OpV) : Prop where
  len : l.length = n
  sl : Sl w w.heap.size 8 A n (l.flatMap encO)
  ok : ∀ o ∈ l, OpV.ok o
theorem OpsAt.ext {w w' : World} {A : Option Addr} {n : Nat} {l : List OpV} (h : OpsAt w A n l) (hb : Below w.heap.size w w') : OpsAt w' A n l := ⟨h.len, (h.sl.below hb (Nat.le_refl _)).more hb.size, h.ok⟩
theorem OpsAt.at_ {w : World} {A : Option Addr} {n : Nat} {l : List OpV} (h : OpsAt w A n l) {k : Nat} (hk : k < n) : ∃ b o x, A = some ⟨b, o, none⟩ ∧ b < w.heap.size ∧ l[k]? = some x ∧ w.rangeAt b (o + k * 8) (encO x) ∧ OpV.ok x := by
  have hk' : k < l.length := by rw [h.len]; exact hk
  obtain ⟨b, o, e, hb, hr⟩ := h.sl.rowAt h.len (fun x _ => encO_len x) hk'
  exact ⟨b, o, l[k], e, hb, List.getElem?_eq_getElem hk', hr, h.ok _ (List.getElem_mem hk')⟩
theorem OpsAt.of_own {w : World} {base n : Nat} {v : Value} {l : List OpV} (h : w.ownsRow base 122 8 v n (l.flatMap encO)) (hn : l.length = n) (ho : ∀ o ∈ l, OpV.ok o) : ∃ A c, v = .slice A n c ∧ n ≤ c ∧ OpsAt w A n l := by
  obtain ⟨A, c, rfl, hc, hs⟩ := Sl.of_own h
  exact ⟨A, c, rfl, hc, hn, hs, ho⟩
end Go.Proofs.YtihggkmjalofiaaGreatDoor

/- The vertices that an operation names: they lie in a block of their own. -/
namespace Go.Proofs.YtihggkmjalofiaaGreatDoor
open Go.RowKit

theorem ownRet_fresh {w w0 : World} {e : TypeId} {size n b : Nat} {xs : List Value} (hl : xs.length = n * size) (hb : Below w.heap.size w w0) (hs : w0.heap.size = b) (hm : n ≤ maxLen) :
    OwnedRet w e size n xs (.returned (.slice (some ⟨b, 0, none⟩) n n)) (w0.alloc (.cells xs.toArray e)) := by
  subst hs
  refine ⟨_, rfl, ?_, hb.alloc hb.size _⟩
  have h := World.ownsRow_lit (base := w.heap.size) (e := e) (size := size) w0 xs.toArray n hb.size hm (by simpa using hl)
  simpa using h
theorem refsV_le2 (k : Int) (x y : VidO) : (refsV k x y).length ≤ 2 := by unfold refsV; split; simp; split <;> simp
theorem ownRet_nil {w w0 : World} {e : TypeId} {size : Nat} (hb : Below w.heap.size w w0) : OwnedRet w e size 0 [] (.returned (.slice none 0 0)) w0 :=
  ⟨_, rfl, World.ownsRow_nil w0 _ e size, hb⟩
set_option maxHeartbeats 400000 in
theorem refs_own (k : Int) (x y : VidO) (t : ByteArray) (w : World) (hk : 0 ≤ k ∧ k < 256) : Calls Tryz.prog 157 #[opC k x y t] w (OwnedRet w 120 3 (refsV k x y).length ((refsV k x y).flatMap VidO.cs)) := by
  obtain ⟨hk0, hk1⟩ := hk
  by_cases c2 : k = 2
  · subst c2
    go_enter Tryz.func157, Tryz.ntmps157
    go_wp2
    go_ret
    exact ownRet_fresh rfl (below_box _ _) (by simp) (Nat.le_trans (refsV_le2 _ x y) (by decide))
  by_cases c3 : k = 3
  · subst c3
    go_enter Tryz.func157, Tryz.ntmps157
    go_wp2
    go_ret
    exact ownRet_fresh rfl (below_box _ _) (by simp) (Nat.le_trans (refsV_le2 _ x y) (by decide))
  by_cases c5 : k = 5
  · subst c5
    go_enter Tryz.func157, Tryz.ntmps157
    go_wp2
    go_ret
    exact ownRet_fresh rfl (below_box _ _) (by simp) (Nat.le_trans (refsV_le2 _ x y) (by decide))
  by_cases c4 : k = 4
  · subst c4
    go_enter Tryz.func157, Tryz.ntmps157
    go_wp2
    go_ret
    exact ownRet_fresh rfl (below_box _ _) (by simp) (Nat.le_trans (refsV_le2 _ x y) (by decide))
  rw [refsV_none x y (k := k) (by omega)]
  have d2 : (k == 2) = false := by simpa using c2
  have d3 : (k == 3) = false := by simpa using c3
  have d4 : (k == 4) = false := by simpa using c4
  have d5 : (k == 5) = false := by simpa using c5
  clear c2 c3 c4 c5
  go_enter Tryz.func157, Tryz.ntmps157
  go_wp2
  go_ret
  exact ownRet_nil (below_box _ _)

theorem refsW (o : OpV) (w : World) : Calls Tryz.prog 157 #[.agg (encO o).toArray] w (OwnedRet w 120 3 (refsO o).length ((refsO o).flatMap encV)) := by
  have h := refs_own ((o.1.val : Nat) : Int) (oldV o.2.1) (oldV o.2.2.1) o.2.2.2 w ⟨by omega, by have := o.1.isLt; omega⟩
  rw [refsO_old, old_flat, List.length_map] at h
  exact h
/-- two rows of other types never share a block -/
theorem own_ne {w : World} {b1 b2 : Nat} {e1 e2 : TypeId} {s1 s2 n1 n2 : Nat} {v1 v2 : Value} {x1 x2 : List Value} (h1 : w.ownsRow b1 e1 s1 v1 n1 x1) (h2 : w.ownsRow b2 e2 s2 v2 n2 x2) (he : e1 ≠ e2) : v1.ownBlock = none ∨ v1.ownBlock ≠ v2.ownBlock := by
  rcases h1.2 with ⟨rfl, _⟩ | ⟨g, cap, cur, rfl, _, hh, _⟩
  · exact .inl rfl
  · refine .inr fun h => ?_
    rcases h2.2 with ⟨rfl, _⟩ | ⟨g', cap', cur', rfl, _, hh', _⟩
    · simp [Value.ownBlock] at h
    · have hg : g = g' := by simpa [Value.ownBlock] using h
      subst hg
      rw [hh] at hh'
      injection hh' with hh'
      injection hh' with _ ht _
      exact he ht
section
variable {P : Program} {w w0 : World} {ops : Array Oper} {rest : List Oper} {a : Act} {Q : Exit → Act → World → Prop}
/-- .. and only this row has turned -/
theorem wpList_pushOnly {d : Option Tmp} {ty : TypeId} {pos : String} {after : Array Edge} {s x : Operand} {t e : TypeId} {size bytes : Nat} (T : SlT P t e size bytes)
    {base : Nat} {v : Value} {n : Nat} {xs : List Value} (hown : w0.ownsRow base e size v n xs) (cs : List Value) (hl : cs.length = size) (h1 : ∀ u ∈ cs, u.oneCell' = true) (hbase : base ≤ w0.heap.size)
    (hb : (n + 1) * bytes ≤ 140737488355328) (hm : n + 1 ≤ maxLen)
    (H : Nat) (hH : w0.heap.size = H) (hs : a.eval s = v) (hx : a.eval x = .slice (some ⟨H, 0, none⟩) 1 1) (hw : w = w0.alloc (.cells cs.toArray e))
    (h : ∀ v' w', w'.ownsRow base e size v' (n + 1) (xs ++ cs) → (w0.alloc (.cells cs.toArray e)).grownBy w' v.ownBlock → Below base w0 w' → wpList P ops Q rest (a.put d v') w') :
    wpList P ops Q (⟨d, .call { callee := .builtin .append, args := #[s, x], argTypes := #[t, t] }, ty, pos, after, none⟩ :: rest) a w := by
  obtain ⟨i, z, hi, hz, hsz, hby, hzs⟩ := T.hi
  subst hw hH
  have hown' := hown.alloc (.cells cs.toArray e)
  refine wpList_append_own _ rfl s x t rfl base e i z size bytes T.ht hi hz hsz hby hzs T.pos v n xs hs hown' ⟨w0.heap.size, 0, none⟩ 1 1 cs hx (by omega) (news_new w0 e cs) h1 hm hb (by simp; omega) ?_
  intro v' w' ho hg _
  exact h v' w' ho hg (((Below.refl base w0).alloc hbase _).grown hg (by simp; omega) (fun k hk => (hown'.lt k hk).1))
end

theorem own_base {w : World} {base base' : Nat} {e : TypeId} {size n : Nat} {v : Value} {xs : List Value} (h : w.ownsRow base e size v n xs) (hb : base' ≤ base) : w.ownsRow base' e size v n xs :=
  ⟨h.1, h.2.imp id fun ⟨g, cap, cur, e, hg, r⟩ => ⟨g, cap, cur, e, Nat.le_trans hb hg, r⟩⟩
end Go.Proofs.YtihggkmjalofiaaGreatDoor

/- Which patches come ahead: the document's, walked. -/
namespace Go.Proofs.YtihggkmjalofiaaGreatDoor
open Go.RowKit

def firstDep (id : PidV) : List PidV := if h : 1 < id.2.val then [(id.1, ⟨id.2.val - 1, by have := id.2.isLt; omega⟩)] else []
def opDeps (id : PidV) (o : OpV) : List PidV := ((refsO o).filter fun v => decide (v.1 ≠ id)).map (·.1)
def rawDeps (id : PidV) (l : List OpV) : List PidV := firstDep id ++ l.flatMap (opDeps id)
def depsV (id : PidV) (l : List OpV) : List PidV := setK keyP (rawDeps id l)
theorem opDeps_le (id : PidV) (o : OpV) : (opDeps id o).length ≤ 2 := by
  unfold opDeps
  rw [List.length_map]
  exact Nat.le_trans (List.length_filter_le _ _) (refsO_le o)
theorem rawDeps_le (id : PidV) (l : List OpV) : (rawDeps id l).length ≤ 1 + 2 * l.length := by
  unfold rawDeps
  have h1 : (firstDep id).length ≤ 1 := by unfold firstDep; split <;> simp
  have h2 : (l.flatMap (opDeps id)).length ≤ 2 * l.length := by
    induction l with
    | nil => simp
    | cons o l ih =>
      rw [List.flatMap_cons, List.length_append, List.length_cons]
      have := opDeps_le id o
      omega
  rw [List.length_append]; omega
theorem raw_snoc {id : PidV} {l : List OpV} {k : Nat} {o : OpV} (h : l[k]? = some o) : rawDeps id (l.take (k + 1)) = rawDeps id (l.take k) ++ opDeps id o := by
  unfold rawDeps; rw [take_snoc' h]; simp
def partDeps (id : PidV) (vs : List VidV) : List PidV := (vs.filter fun v => decide (v.1 ≠ id)).map (·.1)
theorem part_snoc_in {id : PidV} {vs : List VidV} {j : Nat} {v : VidV} (h : vs[j]? = some v) (hv : v.1 ≠ id) : partDeps id (vs.take (j + 1)) = partDeps id (vs.take j) ++ [v.1] := by
  unfold partDeps; rw [take_snoc' h]; simp [hv]
theorem part_snoc_out {id : PidV} {vs : List VidV} {j : Nat} {v : VidV} (h : vs[j]? = some v) (hv : v.1 = id) : partDeps id (vs.take (j + 1)) = partDeps id (vs.take j) := by
  unfold partDeps; rw [take_snoc' h]; simp [hv]
theorem part_all {id : PidV} {o : OpV} {j : Nat} (h : j = (refsO o).length) : partDeps id ((refsO o).take j) = opDeps id o := by
  rw [h, List.take_length]; rfl
theorem part_le (id : PidV) (vs : List VidV) (j : Nat) : (partDeps id (vs.take j)).length ≤ j := by
  unfold partDeps
  rw [List.length_map]
  refine Nat.le_trans (List.length_filter_le _ _) ?_
  rw [List.length_take]; omega
theorem vid_pid_range {w : World} {b o : Nat} {v : VidV} (h : w.rangeAt b o (encV v)) : w.rangeAt b o (encP v.1) := fun j u hj => by
  match j, hj with
  | 0, hj => exact h 0 u hj
  | 1, hj => exact h 1 u hj
  | j + 2, hj => simp [encP] at hj
theorem firstDep_cases (id : PidV) : (¬ (1 < ((id.2.val : Nat) : Int)) ∧ firstDep id = []) ∨ (1 < ((id.2.val : Nat) : Int) ∧ ∃ q : PidV, firstDep id = [q] ∧ Hid (encP q = [.int .u8 ((id.1.val : Nat) : Int), .int .u16 (((id.2.val : Nat) : Int) - 1)])) := by
  by_cases h1 : 1 < id.2.val
  · refine .inr ⟨by omega, (id.1, ⟨id.2.val - 1, by have := id.2.isLt; omega⟩), by unfold firstDep; rw [dif_pos h1], ?_⟩
    have : ((id.2.val - 1 : Nat) : Int) = ((id.2.val : Nat) : Int) - 1 := by omega
    simp [encP, Hid, this]
  · exact .inl ⟨by omega, by unfold firstDep; rw [dif_neg h1]⟩
theorem raw_nil (id : PidV) (l : List OpV) : rawDeps id (l.take 0) = firstDep id := by simp [rawDeps]
end Go.Proofs.YtihggkmjalofiaaGreatDoor

/- Whether two patches are the same: the parts, walked. -/
namespace Go.Proofs.YtihggkmjalofiaaGreatDoor
open Go.RowKit

theorem neqO_any (a1 a2 a3 a4 a5 a6 a7 b1 b2 b3 b4 b5 b6 b7 : Int) (s t : ByteArray) (w : World) : (binOp .neq 122 (.agg #[.int .u8 a1, .int .u8 a2, .int .u16 a3, .int .u8 a4, .int .u8 a5, .int .u16 a6, .int .u8 a7, .string s]) (.agg #[.int .u8 b1, .int .u8 b2, .int .u16 b3, .int .u8 b4, .int .u8 b5, .int .u16 b6, .int .u8 b7, .string t])).run Tryz.prog w = .ok (.bool (!decide (a1 = b1 ∧ a2 = b2 ∧ a3 = b3 ∧ a4 = b4 ∧ a5 = b5 ∧ a6 = b6 ∧ a7 = b7 ∧ s.toList = t.toList))) w := by
  simp [go_sem]
  by_cases h1 : a1 = b1
  · by_cases h2 : a2 = b2
    · by_cases h3 : a3 = b3
      · by_cases h4 : a4 = b4
        · by_cases h5 : a5 = b5
          · by_cases h6 : a6 = b6
            · by_cases h7 : a7 = b7
              · by_cases h8 : s.toList = t.toList <;> simp [h1, h2, h3, h4, h5, h6, h7, h8]
              · simp [h7]
            · simp [h6]
          · simp [h5]
        · simp [h4]
      · simp [h3]
    · simp [h2]
  · simp [h1]
theorem str_eq {s t : ByteArray} (e : s.toList = t.toList) : s = t := by
  rw [ByteArray.toList_eq, ByteArray.toList_eq] at e
  exact ByteArray.ext (Array.ext' e)
theorem fin_eq {n : Nat} {a b : Fin n} (h : ((a.val : Nat) : Int) = ((b.val : Nat) : Int)) : a = b := Fin.ext (by omega)
theorem opV_iff (x y : OpV) : (((x.1.val : Nat) : Int) = ((y.1.val : Nat) : Int) ∧ ((x.2.1.1.1.val : Nat) : Int) = ((y.2.1.1.1.val : Nat) : Int) ∧ ((x.2.1.1.2.val : Nat) : Int) = ((y.2.1.1.2.val : Nat) : Int) ∧ ((x.2.1.2.val : Nat) : Int) = ((y.2.1.2.val : Nat) : Int) ∧ ((x.2.2.1.1.1.val : Nat) : Int) = ((y.2.2.1.1.1.val : Nat) : Int) ∧ ((x.2.2.1.1.2.val : Nat) : Int) = ((y.2.2.1.1.2.val : Nat) : Int) ∧ ((x.2.2.1.2.val : Nat) : Int) = ((y.2.2.1.2.val : Nat) : Int) ∧ x.2.2.2.toList = y.2.2.2.toList) ↔ x = y := by
  constructor
  · rintro ⟨h1, h2, h3, h4, h5, h6, h7, h8⟩
    exact Prod.ext (fin_eq h1) (Prod.ext (Prod.ext (Prod.ext (fin_eq h2) (fin_eq h3)) (fin_eq h4)) (Prod.ext (Prod.ext (Prod.ext (fin_eq h5) (fin_eq h6)) (fin_eq h7)) (str_eq h8)))
  · rintro rfl; exact ⟨rfl, rfl, rfl, rfl, rfl, rfl, rfl, rfl⟩
theorem neqO (x y : OpV) (w : World) : (binOp .neq 122 (.agg (encO x).toArray) (.agg (encO y).toArray)).run Tryz.prog w = .ok (.bool (!decide (x = y))) w := by
  rw [show decide (x = y) = _ from (decide_eq_decide.2 (opV_iff x y)).symm]
  exact neqO_any _ _ _ _ _ _ _ _ _ _ _ _ _ _ _ _ w
theorem encsO_one (l : List OpV) : ∀ u ∈ l.flatMap encO, u.oneCell' = true := by
  intro u hu
  obtain ⟨p, _, hp⟩ := List.mem_flatMap.1 hu
  exact encO_one p u hp
set_option maxRecDepth 100000 in
set_option maxHeartbeats 1000000 in
theorem equalP (l m : List PidV) (w : World) (A A' : Option Addr) (n n' c c' : Nat) (h : PidsAt w A n l) (h' : PidsAt w A' n' m) (hm : n ≤ maxLen) :
    Calls Tryz.prog 63 #[.slice A n c, .slice A' n' c'] w (RetD w (.bool (decide (l = m)))) := by
  unfold maxLen at hm
  by_cases hne : n = n'
  · subst hne
    have H := Lib.hid h
    have H' := Lib.hid h'
    clear h h'
    go_enter Tryz.func63, Tryz.ntmps63
    go_wp2_with fail
    go_loopw [13] (fun i wr => ∃ k : Nat, k ≤ n ∧ i = .int .i64 k ∧ Hid (l.take k = m.take k) ∧ ∃ q, wr = w.drewN q) (fun i _ => n - (intOf i).toNat)
    case atStart => exact ⟨0, by omega, rfl, rfl, 0, rfl⟩
    case round =>
      obtain ⟨k, hk, rfl, T, q, rfl⟩ := hrel
      by_cases hlt : k < n
      · obtain ⟨b, o, x, rfl, hb, hx, R1⟩ := H.out.at_ hlt
        obtain ⟨b', o', y, rfl, hb', hy, R2⟩ := H'.out.at_ hlt
        have R1 := Lib.hid R1
        have R2 := Lib.hid R2
        have hlk : (k : Int) < (n : Int) := by omega
        have hk0 : (0 : Int) ≤ (k : Int) := by omega
        have NE := fun u => neqP x y u
        by_cases e : x = y
        · subst e
          have N := Lib.hid (take_eq_snoc T.out hx hy)
          have NE' : ∀ u : World, (binOp .neq 27 (.agg (encP x).toArray) (.agg (encP x).toArray)).run Tryz.prog u = .ok (.bool false) u := fun u => by rw [NE]; simp
          clear NE hx hy T
          go_wp2_with fail
          refine wp_region_quiet_lit (by kernel_rfl) (by kernel_rfl) ?_
          repeat (first | (refine wpQuiet_load_mid (rangeAt_drewN2 R1.out) underPid rfl infoPid rfl rfl ?_; simp only [List.set_cons_succ, List.set_cons_zero]) | (refine wpQuiet_load_mid (rangeAt_drewN2 R2.out) underPid rfl infoPid rfl rfl ?_; simp only [List.set_cons_succ, List.set_cons_zero]) | go_big_quiet_step (fail))
          refine wpQuiet_nil ?_
          rintro _ ⟨nq, rfl⟩
          go_wp2_with fail
          go_roundw
          case rel => exact ⟨k + 1, by omega, by go_num, N.out, ⟨_, rfl⟩⟩
          case measure => simp [intOf]; omega
        · have F : Hid (decide (l = m) = false) := decide_eq_false fun e2 => e (by rw [e2, hy] at hx; exact (Option.some.inj hx).symm)
          have NE' : ∀ u : World, (binOp .neq 27 (.agg (encP x).toArray) (.agg (encP y).toArray)).run Tryz.prog u = .ok (.bool true) u := fun u => by rw [NE, decide_eq_false e]; rfl
          clear NE hx hy T e
          go_wp2_with fail
          refine wp_region_quiet_lit (by kernel_rfl) (by kernel_rfl) ?_
          repeat (first | (refine wpQuiet_load_mid (rangeAt_drewN2 R1.out) underPid rfl infoPid rfl rfl ?_; simp only [List.set_cons_succ, List.set_cons_zero]) | (refine wpQuiet_load_mid (rangeAt_drewN2 R2.out) underPid rfl infoPid rfl rfl ?_; simp only [List.set_cons_succ, List.set_cons_zero]) | go_big_quiet_step (fail))
          refine wpQuiet_nil ?_
          rintro _ ⟨nq, rfl⟩
          go_wp2
          go_ret
          exact ⟨ret_bool F.out.symm, _, World.drewN_drewN _ _ _⟩
      · have F : Hid (decide (l = m) = true) := by
          have e := T.out
          rw [List.take_of_length_le (by rw [H.out.len]; omega), List.take_of_length_le (by rw [H'.out.len]; omega)] at e
          exact decide_eq_true e
        clear T
        go_wp2
        go_ret
        exact ⟨ret_bool F.out.symm, q, rfl⟩
  · have F : Hid (decide (l = m) = false) := decide_eq_false fun e => hne (by rw [← h.len, ← h'.len, e])
    clear h h'
    have d1 : ((n : Int) != (n' : Int)) = true := bne_iff_ne.2 (by omega)
    go_enter Tryz.func63, Tryz.ntmps63
    go_wp2
    go_ret
    exact ⟨ret_bool F.out.symm, 0, rfl⟩
set_option maxRecDepth 100000 in
set_option maxHeartbeats 1000000 in
theorem equalO (l m : List OpV) (w : World) (A A' : Option Addr) (n n' c c' : Nat) (h : OpsAt w A n l) (h' : OpsAt w A' n' m) (hm : n ≤ maxLen) :
    Calls Tryz.prog 64 #[.slice A n c, .slice A' n' c'] w (RetD w (.bool (decide (l = m)))) := by
  unfold maxLen at hm
  by_cases hne : n = n'
  · subst hne
    have H := Lib.hid h
    have H' := Lib.hid h'
    clear h h'
    go_enter Tryz.func64, Tryz.ntmps64
    go_wp2_with fail
    go_loopw [13] (fun i wr => ∃ k : Nat, k ≤ n ∧ i = .int .i64 k ∧ Hid (l.take k = m.take k) ∧ ∃ q, wr = w.drewN q) (fun i _ => n - (intOf i).toNat)
    case atStart => exact ⟨0, by omega, rfl, rfl, 0, rfl⟩
    case round =>
      obtain ⟨k, hk, rfl, T, q, rfl⟩ := hrel
      by_cases hlt : k < n
      · obtain ⟨b, o, x, rfl, hb, hx, R1, _⟩ := H.out.at_ hlt
        obtain ⟨b', o', y, rfl, hb', hy, R2, _⟩ := H'.out.at_ hlt
        have R1 := Lib.hid R1
        have R2 := Lib.hid R2
        have hlk : (k : Int) < (n : Int) := by omega
        have hk0 : (0 : Int) ≤ (k : Int) := by omega
        have NE := fun u => neqO x y u
        by_cases e : x = y
        · subst e
          have N := Lib.hid (take_eq_snoc T.out hx hy)
          have NE' : ∀ u : World, (binOp .neq 122 (.agg (encO x).toArray) (.agg (encO x).toArray)).run Tryz.prog u = .ok (.bool false) u := fun u => by rw [NE]; simp
          clear NE hx hy T
          go_wp2_with fail
          refine wp_region_quiet_lit (by kernel_rfl) (by kernel_rfl) ?_
          repeat (first | (refine wpQuiet_load_mid (rangeAt_drewN2 R1.out) underOp rfl infoOp rfl rfl ?_; simp only [List.set_cons_succ, List.set_cons_zero]) | (refine wpQuiet_load_mid (rangeAt_drewN2 R2.out) underOp rfl infoOp rfl rfl ?_; simp only [List.set_cons_succ, List.set_cons_zero]) | go_big_quiet_step (fail))
          refine wpQuiet_nil ?_
          rintro _ ⟨nq, rfl⟩
          go_wp2_with fail
          go_roundw
          case rel => exact ⟨k + 1, by omega, by go_num, N.out, ⟨_, rfl⟩⟩
          case measure => simp [intOf]; omega
        · have F : Hid (decide (l = m) = false) := decide_eq_false fun e2 => e (by rw [e2, hy] at hx; exact (Option.some.inj hx).symm)
          have NE' : ∀ u : World, (binOp .neq 122 (.agg (encO x).toArray) (.agg (encO y).toArray)).run Tryz.prog u = .ok (.bool true) u := fun u => by rw [NE, decide_eq_false e]; rfl
          clear NE hx hy T e
          go_wp2_with fail
          refine wp_region_quiet_lit (by kernel_rfl) (by kernel_rfl) ?_
          repeat (first | (refine wpQuiet_load_mid (rangeAt_drewN2 R1.out) underOp rfl infoOp rfl rfl ?_; simp only [List.set_cons_succ, List.set_cons_zero]) | (refine wpQuiet_load_mid (rangeAt_drewN2 R2.out) underOp rfl infoOp rfl rfl ?_; simp only [List.set_cons_succ, List.set_cons_zero]) | go_big_quiet_step (fail))
          refine wpQuiet_nil ?_
          rintro _ ⟨nq, rfl⟩
          go_wp2
          go_ret
          exact ⟨ret_bool F.out.symm, _, World.drewN_drewN _ _ _⟩
      · have F : Hid (decide (l = m) = true) := by
          have e := T.out
          rw [List.take_of_length_le (by rw [H.out.len]; omega), List.take_of_length_le (by rw [H'.out.len]; omega)] at e
          exact decide_eq_true e
        clear T
        go_wp2
        go_ret
        exact ⟨ret_bool F.out.symm, q, rfl⟩
  · have F : Hid (decide (l = m) = false) := decide_eq_false fun e => hne (by rw [← h.len, ← h'.len, e])
    clear h h'
    have d1 : ((n : Int) != (n' : Int)) = true := bne_iff_ne.2 (by omega)
    go_enter Tryz.func64, Tryz.ntmps64
    go_wp2
    go_ret
    exact ⟨ret_bool F.out.symm, 0, rfl⟩
set_option maxRecDepth 100000 in
set_option maxHeartbeats 1000000 in
theorem cloneO (l : List OpV) (w : World) (A : Option Addr) (n c : Nat) (hm : n ≤ 100000) (h : OpsAt w A n l) :
    Calls Tryz.prog 188 #[.slice A n c] w (OwnedRet w 122 8 n (l.flatMap encO)) := by
  have HE : ∀ u : World, (binOp .eql 29 (.slice A n c) (.slice none 0 0)).run Tryz.prog u = .ok (.bool A.isNone) u := fun u => Lib.run_eql_slice_nil u _ _ A n c 0 0 Tryz.underlying29
  have HS := Lib.hid h.sl
  have HL := Lib.hid h.len
  clear h
  cases A with
  | none =>
    have hn0 : n = 0 := by
      rcases Nat.eq_zero_or_pos n with h0 | h0
      · exact h0
      · obtain ⟨b, o, e, _⟩ := HS.out.2 h0; cases e
    subst hn0
    have hl : Hid (l = []) := List.length_eq_zero_iff.1 HL.out
    have HE' : ∀ u : World, (binOp .eql 29 (.slice none 0 c) (.slice none 0 0)).run Tryz.prog u = .ok (.bool true) u := HE
    clear HE
    go_enter Tryz.func188, Tryz.ntmps188
    go_wp2
    go_ret
    refine ⟨_, rfl, ?_, Below.refl _ _⟩
    rw [hl.out]
    exact World.ownsRow_nil _ _ _ _
  | some a =>
    have HE' : ∀ u : World, (binOp .eql 29 (.slice (some a) n c) (.slice none 0 0)).run Tryz.prog u = .ok (.bool false) u := HE
    clear HE
    have B0 : Hid (Below w.heap.size w (w.alloc (.cells #[] 122))) := below_new _ _
    have O0 : Hid ((w.alloc (.cells #[] 122)).ownsRow w.heap.size 122 8 (.slice (some ⟨w.heap.size, 0, none⟩) 0 0) 0 []) :=
      ⟨rfl, .inr ⟨w.heap.size, 0, #[], rfl, Nat.le_refl _, heap_alloc_new w _, Nat.le_refl _, by simp, rfl, rfl⟩⟩
    have S0 : Hid (Sl (w.alloc (.cells #[] 122)) w.heap.size 8 (some a) n (l.flatMap encO)) := HS.out.below B0.out (Nat.le_refl _)
    go_enter Tryz.func188, Tryz.ntmps188
    go_wp2_with (at_builtin; refine wpList_cat opSl O0.out S0.out (encsO_one l) B0.out.size (by omega) (by unfold maxLen; omega) (by rfl) (by rfl) ?_)
    intro v' w' ho hb
    rw [Nat.zero_add, List.nil_append] at ho
    have O1 := Lib.hid ho
    have B1 := Lib.hid (B0.out.trans hb)
    clear ho hb
    obtain ⟨A2, c2, hv, _, _⟩ := Sl.of_own O1.out
    subst hv
    go_wp2
    go_ret
    exact ⟨_, rfl, O1.out, B1.out⟩
end Go.Proofs.YtihggkmjalofiaaGreatDoor

/- Patches as they lie in memory; whether two are the same, walked. -/
namespace Go.Proofs.YtihggkmjalofiaaGreatDoor
open Go.RowKit

abbrev PatV := PidV × List PidV × List OpV
/-- a patch's cells -/
def patC (id : PidV) (A : Option Addr) (n c : Nat) (A' : Option Addr) (n' c' : Nat) : List Value := [.int .u8 ((id.1.val : Nat) : Int), .int .u16 ((id.2.val : Nat) : Int), .slice A n c, .slice A' n' c']
theorem patC_pid {w : World} {g : Nat} {t : TypeId} {id : PidV} {A : Option Addr} {n c : Nat} {A' : Option Addr} {n' c' : Nat} (h : Blk w g t (patC id A n c A' n' c').toArray) : w.rangeAt g 0 (encP id) :=
  blk_sub h fun j v hj => by
    match j, hj with
    | 0, hj => exact hj
    | 1, hj => exact hj
    | j + 2, hj => simp [encP] at hj
/-- a patch as it lies -/
structure PatAt (w : World) (cs : List Value) (p : PatV) : Prop where
  ex : ∃ A c A' c', cs = patC p.1 A p.2.1.length c A' p.2.2.length c' ∧ PidsAt w A p.2.1.length p.2.1 ∧ OpsAt w A' p.2.2.length p.2.2
  len1 : p.2.1.length ≤ maxLen
  len2 : p.2.2.length ≤ maxLen
theorem PatAt.ext {w w' : World} {cs : List Value} {p : PatV} (h : PatAt w cs p) (hb : Below w.heap.size w w') : PatAt w' cs p := by
  obtain ⟨⟨A, c, A', c', e, h1, h2⟩, h3, h4⟩ := h
  exact ⟨⟨A, c, A', c', e, h1.ext hb, h2.ext hb⟩, h3, h4⟩
theorem patV_eq (p q : PatV) : p = q ↔ p.1 = q.1 ∧ p.2.1 = q.2.1 ∧ p.2.2 = q.2.2 :=
  ⟨fun h => by rw [h]; exact ⟨rfl, rfl, rfl⟩, fun ⟨h1, h2, h3⟩ => Prod.ext h1 (Prod.ext h2 h3)⟩
instance : DecidableEq PatV := fun p q => decidable_of_iff _ (patV_eq p q).symm
theorem PidsAt.drewN {w : World} {A : Option Addr} {n : Nat} {l : List PidV} (h : PidsAt w A n l) (u : Nat) : PidsAt (w.drewN u) A n l := ⟨h.len, h.sl⟩
theorem OpsAt.drewN {w : World} {A : Option Addr} {n : Nat} {l : List OpV} (h : OpsAt w A n l) (u : Nat) : OpsAt (w.drewN u) A n l := ⟨h.len, h.sl, h.ok⟩
theorem infoPat : (Tryz.prog.info? 31).map (·.size) = some 4 := by kernel_rfl
set_option maxRecDepth 100000 in
set_option maxHeartbeats 4000000 in
theorem psame (p q : PatV) (w : World) (cs ds : List Value) (hp : PatAt w cs p) (hq : PatAt w ds q) :
    Calls Tryz.prog 13 #[.agg cs.toArray, .agg ds.toArray] w (RetB w (.bool (decide (p = q)))) := by
  obtain ⟨⟨A, c, A', c', rfl, P1, O1⟩, m1, m2⟩ := hp
  obtain ⟨⟨B, d, B', d', rfl, P2, O2⟩, m3, m4⟩ := hq
  have K1 : Hid (Blk ((w.alloc (.cells (patC p.1 A p.2.1.length c A' p.2.2.length c').toArray 31)).alloc (.cells (patC q.1 B q.2.1.length d B' q.2.2.length d').toArray 31)) w.heap.size 31 (patC p.1 A p.2.1.length c A' p.2.2.length c').toArray) := (Blk.new _ _ _).alloc _
  have K2 : Hid (Blk ((w.alloc (.cells (patC p.1 A p.2.1.length c A' p.2.2.length c').toArray 31)).alloc (.cells (patC q.1 B q.2.1.length d B' q.2.2.length d').toArray 31)) (w.heap.size + 1) 31 (patC q.1 B q.2.1.length d B' q.2.2.length d').toArray) := Blk.newAt (by simp) _ _
  have B0 : Hid (Below w.heap.size w ((w.alloc (.cells (patC p.1 A p.2.1.length c A' p.2.2.length c').toArray 31)).alloc (.cells (patC q.1 B q.2.1.length d B' q.2.2.length d').toArray 31))) := ((Below.refl _ _).alloc (Nat.le_refl _) _).alloc (by simp) _
  go_enter Tryz.func13, Tryz.ntmps13
  go_upto_region 1 with fail
  generalize ((w.alloc (.cells (patC p.1 A p.2.1.length c A' p.2.2.length c').toArray 31)).alloc (.cells (patC q.1 B q.2.1.length d B' q.2.2.length d').toArray 31)) = w2 at *
  have R1 := Lib.hid (patC_pid K1.out)
  have R2 := Lib.hid (patC_pid K2.out)
  have P1 := Lib.hid (P1.ext B0.out)
  have P2 := Lib.hid (P2.ext B0.out)
  have O1 := Lib.hid (O1.ext B0.out)
  have O2 := Lib.hid (O2.ext B0.out)
  have a2 : w2.cell? ⟨w.heap.size, 2, none⟩ = some (.slice A p.2.1.length c) := K1.out.cell 2
  have a3 : w2.cell? ⟨w.heap.size, 3, none⟩ = some (.slice A' p.2.2.length c') := K1.out.cell 3
  have b2 : w2.cell? ⟨w.heap.size + 1, 2, none⟩ = some (.slice B q.2.1.length d) := K2.out.cell 2
  have b3 : w2.cell? ⟨w.heap.size + 1, 3, none⟩ = some (.slice B' q.2.2.length d') := K2.out.cell 3
  have EQ := fun u => eqlP p.1 q.1 u
  by_cases e1 : p.1 = q.1
  · have EQ' : ∀ u : World, (binOp .eql 27 (.agg (encP p.1).toArray) (.agg (encP q.1).toArray)).run Tryz.prog u = .ok (.bool true) u := fun u => by rw [EQ, decide_eq_true e1]
    clear EQ
    have C1 := fun u => equalP p.2.1 q.2.1 (w2.drewN u) A B p.2.1.length q.2.1.length c d (P1.out.drewN u) (P2.out.drewN u) m1
    have C2 := fun u => equalO p.2.2 q.2.2 (w2.drewN u) A' B' p.2.2.length q.2.2.length c' d' (O1.out.drewN u) (O2.out.drewN u) m2
    by_cases e2 : p.2.1 = q.2.1
    · simp only [decide_eq_true e2] at C1
      by_cases e3 : p.2.2 = q.2.2
      · have F : Hid (decide (p = q) = true) := decide_eq_true ((patV_eq p q).2 ⟨e1, e2, e3⟩)
        simp only [decide_eq_true e3] at C2
        clear e1 e2 e3
        go_wp2_with (first | (refine wpList_load_mid rfl 27 _ rfl _ _ (by rfl) _ _ R1.out underPid rfl infoPid ?_) | (refine wpList_load_mid rfl 27 _ rfl _ _ (by rfl) _ _ R2.out underPid rfl infoPid ?_) | (refine (C1 0).mono ?_; rintro e w' ⟨rfl, q1, rfl⟩) | (refine (C2 _).mono ?_; rintro e w' ⟨rfl, q2, rfl⟩))
        go_ret
        exact ⟨ret_bool F.out.symm, below_drewN B0.out _⟩
      · have F : Hid (decide (p = q) = false) := decide_eq_false fun h => e3 ((patV_eq p q).1 h).2.2
        simp only [decide_eq_false e3] at C2
        clear e1 e2 e3
        go_wp2_with (first | (refine wpList_load_mid rfl 27 _ rfl _ _ (by rfl) _ _ R1.out underPid rfl infoPid ?_) | (refine wpList_load_mid rfl 27 _ rfl _ _ (by rfl) _ _ R2.out underPid rfl infoPid ?_) | (refine (C1 0).mono ?_; rintro e w' ⟨rfl, q1, rfl⟩) | (refine (C2 _).mono ?_; rintro e w' ⟨rfl, q2, rfl⟩))
        go_ret
        exact ⟨ret_bool F.out.symm, below_drewN B0.out _⟩
    · have F : Hid (decide (p = q) = false) := decide_eq_false fun h => e2 ((patV_eq p q).1 h).2.1
      simp only [decide_eq_false e2] at C1
      clear e1 e2
      go_wp2_with (first | (refine wpList_load_mid rfl 27 _ rfl _ _ (by rfl) _ _ R1.out underPid rfl infoPid ?_) | (refine wpList_load_mid rfl 27 _ rfl _ _ (by rfl) _ _ R2.out underPid rfl infoPid ?_) | (refine (C1 0).mono ?_; rintro e w' ⟨rfl, q1, rfl⟩))
      go_ret
      exact ⟨ret_bool F.out.symm, below_drewN B0.out _⟩
  · have F : Hid (decide (p = q) = false) := decide_eq_false fun h => e1 ((patV_eq p q).1 h).1
    have EQ' : ∀ u : World, (binOp .eql 27 (.agg (encP p.1).toArray) (.agg (encP q.1).toArray)).run Tryz.prog u = .ok (.bool false) u := fun u => by rw [EQ, decide_eq_false e1]
    clear EQ e1
    go_wp2_with (first | (refine wpList_load_mid rfl 27 _ rfl _ _ (by rfl) _ _ R1.out underPid rfl infoPid ?_) | (refine wpList_load_mid rfl 27 _ rfl _ _ (by rfl) _ _ R2.out underPid rfl infoPid ?_))
    go_ret
    exact ⟨ret_bool F.out.symm, B0.out⟩
end Go.Proofs.YtihggkmjalofiaaGreatDoor
