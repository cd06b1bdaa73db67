/- Texts of general use, one behind another. -/
import Derived.Test.YtihggkmjalofiaaDoorVids
import Derived.Test.YtihggkmjalofiaaDoorOpgz
import Derived.Test.YtihggkmjalofiaaDoorSets
import Derived.Test.YtihggkmjalofiaaDoorGen

/- Operations and patches as they lie in memory. -/
namespace Go.Proofs.YtihggkmjalofiaaDoor
open Go.RowKit

/-- an operation: its kind, the vertices that it names, its text -/
abbrev OpV := Fin 256 × VidV × VidV × ByteArray
def encO (o : OpV) : List Value := [.int .u8 ((o.1.val : Nat) : Int), .int .u8 ((o.2.1.1.1.val : Nat) : Int), .int .u16 ((o.2.1.1.2.val : Nat) : Int), .int .u8 ((o.2.1.2.val : Nat) : Int), .int .u8 ((o.2.2.1.1.1.val : Nat) : Int), .int .u16 ((o.2.2.1.1.2.val : Nat) : Int), .int .u8 ((o.2.2.1.2.val : Nat) : Int), .string o.2.2.2]
def OpV.ok (o : OpV) : Prop := o.2.2.2.size ≤ maxLen
theorem encO_len (o : OpV) : (encO o).length = 8 := rfl
theorem encO_one (o : OpV) : ∀ u ∈ encO o, u.oneCell' = true := by
  intro u hu
  simp only [encO, List.mem_cons, List.not_mem_nil, or_false] at hu
  rcases hu with rfl | rfl | rfl | rfl | rfl | rfl | rfl | rfl <;> rfl
theorem underOp : Tryd.prog.underlying 41 = some (.struct (Tryd.prog.fieldsOf 41)) := by kernel_rfl
theorem infoOp : (Tryd.prog.info? 41).map (·.size) = some 8 := by kernel_rfl
theorem opSl : SlT Tryd.prog 31 41 8 32 := slT_of (z := .agg #[.int .u8 0, .int .u8 0, .int .u16 0, .int .u8 0, .int .u8 0, .int .u16 0, .int .u8 0, .string ByteArray.empty]) Tryd.underlying31 (by kernel_rfl) rfl (by omega)
def oldV (v : VidV) : VidO := ⟨((v.1.1.val : Nat) : Int), ((v.1.2.val : Nat) : Int), ((v.2.val : Nat) : Int)⟩
theorem oldV_ok (v : VidV) : (oldV v).ok :=
  ⟨⟨Int.natCast_nonneg _, by have := v.1.1.isLt; show ((v.1.1.val : Nat) : Int) < 256; omega⟩, ⟨Int.natCast_nonneg _, by have := v.1.2.isLt; show ((v.1.2.val : Nat) : Int) < 65536; omega⟩, ⟨Int.natCast_nonneg _, by have := v.2.isLt; show ((v.2.val : Nat) : Int) < 256; omega⟩⟩
/-- the vertices that an operation names -/
def refsO (o : OpV) : List VidV := if o.1.val = 2 ∨ o.1.val = 3 ∨ o.1.val = 5 then [o.2.1] else if o.1.val = 4 then [o.2.1, o.2.2.1] else []
theorem refsO_le (o : OpV) : (refsO o).length ≤ 2 := by unfold refsO; split; simp; split <;> simp
theorem refsO_old (o : OpV) : refsV ((o.1.val : Nat) : Int) (oldV o.2.1) (oldV o.2.2.1) = (refsO o).map oldV := by
  unfold refsV refsO
  by_cases h1 : o.1.val = 2 ∨ o.1.val = 3 ∨ o.1.val = 5
  · rw [if_pos h1, if_pos (by omega)]; rfl
  · rw [if_neg h1, if_neg (by omega)]
    by_cases h2 : o.1.val = 4
    · rw [if_pos h2, if_pos (by omega)]; rfl
    · rw [if_neg h2, if_neg (by omega)]; rfl
theorem old_flat (l : List VidV) : (l.map oldV).flatMap VidO.cs = l.flatMap encV := by
  rw [List.flatMap_map]; rfl
def RetVs (w : World) (l : List VidV) (e : Ending) (w' : World) : Prop := ∃ A c, e = .returned (.slice A l.length c) ∧ l.length ≤ c ∧ VidsAt w' A l.length l ∧ Below w.heap.size w w'
theorem refsN (o : OpV) (w : World) : Calls Tryd.prog 23 #[.agg (encO o).toArray] w (RetVs w (refsO o)) := by
  have h := refs_any ((o.1.val : Nat) : Int) (oldV o.2.1) (oldV o.2.2.1) o.2.2.2 w ⟨by omega, by have := o.1.isLt; omega⟩
  rw [refsO_old, old_flat, List.length_map] at h
  exact h.mono fun _ _ ⟨A, c, he, hc, hs, hb⟩ => ⟨A, c, he, hc, ⟨rfl, hs⟩, hb⟩
theorem rrefsN (o : OpV) (w : World) : Calls Tryd.prog 44 #[.agg (encO o).toArray] w (RetVs w (refsO o)) := by
  have h := rrefs_any ((o.1.val : Nat) : Int) (oldV o.2.1) (oldV o.2.2.1) o.2.2.2 w ⟨by omega, by have := o.1.isLt; omega⟩
  rw [refsO_old, old_flat, List.length_map] at h
  exact h.mono fun _ _ ⟨A, c, he, hc, hs, hb⟩ => ⟨A, c, he, hc, ⟨rfl, hs⟩, hb⟩
def goodO (id : PidV) (i : Int) (o : OpV) : Bool := opGood ((id.1.val : Nat) : Int) ((id.2.val : Nat) : Int) i ((o.1.val : Nat) : Int) (oldV o.2.1) (oldV o.2.2.1) o.2.2.2
theorem goodN (id : PidV) (i : Int) (o : OpV) (ho : o.ok) (w : World) : Calls Tryd.prog 37 #[.agg (encP id).toArray, .int .i64 i, .agg (encO o).toArray] w (RetB w (.bool (goodO id i o))) :=
  good_any _ _ _ _ _ _ _ w ⟨by omega, by have := id.1.isLt; omega⟩ ⟨by omega, by have := id.2.isLt; omega⟩ ⟨by omega, by have := o.1.isLt; omega⟩ (oldV_ok _) (oldV_ok _) ho
theorem rgoodN (id : PidV) (i : Int) (o : OpV) (ho : o.ok) (w : World) : Calls Tryd.prog 46 #[.agg (encP id).toArray, .int .i64 i, .agg (encO o).toArray] w (RetB w (.bool (goodO id i o))) :=
  rgood_any _ _ _ _ _ _ _ w ⟨by omega, by have := id.1.isLt; omega⟩ ⟨by omega, by have := id.2.isLt; omega⟩ ⟨by omega, by have := o.1.isLt; omega⟩ (oldV_ok _) (oldV_ok _) ho
/-- operations in a slice -/
structure OpsAt (w : World) (A : Option Addr) (n : Nat) (l : List OpV) : Prop where
  len : l.length = n
  sl : Sl w w.heap.size 8 A n (l.flatMap encO)
  ok : ∀ o ∈ l, OpV.ok o
theorem OpsAt.ext {w w' : World} {A : Option Addr} {n : Nat} {l : List OpV} (h : OpsAt w A n l) (hb : Below w.heap.size w w') : OpsAt w' A n l := ⟨h.len, (h.sl.below hb (Nat.le_refl _)).more hb.size, h.ok⟩
theorem OpsAt.at_ {w : World} {A : Option Addr} {n : Nat} {l : List OpV} (h : OpsAt w A n l) {k : Nat} (hk : k < n) : ∃ b o x, A = some ⟨b, o, none⟩ ∧ b < w.heap.size ∧ l[k]? = some x ∧ w.rangeAt b (o + k * 8) (encO x) ∧ OpV.ok x := by
  have hk' : k < l.length := by rw [h.len]; exact hk
  obtain ⟨b, o, e, hb, hr⟩ := h.sl.rowAt h.len (fun x _ => encO_len x) hk'
  exact ⟨b, o, l[k], e, hb, List.getElem?_eq_getElem hk', hr, h.ok _ (List.getElem_mem hk')⟩
theorem OpsAt.of_own {w : World} {base n : Nat} {v : Value} {l : List OpV} (h : w.ownsRow base 41 8 v n (l.flatMap encO)) (hn : l.length = n) (ho : ∀ o ∈ l, OpV.ok o) : ∃ A c, v = .slice A n c ∧ n ≤ c ∧ OpsAt w A n l := by
  obtain ⟨A, c, rfl, hc, hs⟩ := Sl.of_own h
  exact ⟨A, c, rfl, hc, hn, hs, ho⟩
end Go.Proofs.YtihggkmjalofiaaDoor

/- The vertices that an operation names: they lie in a block of their own. -/
namespace Go.Proofs.YtihggkmjalofiaaDoor
open Go.RowKit

theorem ownRet_fresh {w w0 : World} {e : TypeId} {size n b : Nat} {xs : List Value} (hl : xs.length = n * size) (hb : Below w.heap.size w w0) (hs : w0.heap.size = b) (hm : n ≤ maxLen) :
    OwnedRet w e size n xs (.returned (.slice (some ⟨b, 0, none⟩) n n)) (w0.alloc (.cells xs.toArray e)) := by
  subst hs
  refine ⟨_, rfl, ?_, hb.alloc hb.size _⟩
  have h := World.ownsRow_lit (base := w.heap.size) (e := e) (size := size) w0 xs.toArray n hb.size hm (by simpa using hl)
  simpa using h
theorem refsV_le2 (k : Int) (x y : VidO) : (refsV k x y).length ≤ 2 := by unfold refsV; split; simp; split <;> simp
theorem ownRet_nil {w w0 : World} {e : TypeId} {size : Nat} (hb : Below w.heap.size w w0) : OwnedRet w e size 0 [] (.returned (.slice none 0 0)) w0 :=
  ⟨_, rfl, World.ownsRow_nil w0 _ e size, hb⟩
set_option maxHeartbeats 400000 in
theorem refs_own (k : Int) (x y : VidO) (t : ByteArray) (w : World) (hk : 0 ≤ k ∧ k < 256) : Calls Tryd.prog 23 #[opC k x y t] w (OwnedRet w 39 3 (refsV k x y).length ((refsV k x y).flatMap VidO.cs)) := by
  obtain ⟨hk0, hk1⟩ := hk
  by_cases c2 : k = 2
  · subst c2
    go_enter Tryd.func23, Tryd.ntmps23
    go_wp2
    go_ret
    exact ownRet_fresh rfl (below_box _ _) (by simp) (Nat.le_trans (refsV_le2 _ x y) (by decide))
  by_cases c3 : k = 3
  · subst c3
    go_enter Tryd.func23, Tryd.ntmps23
    go_wp2
    go_ret
    exact ownRet_fresh rfl (below_box _ _) (by simp) (Nat.le_trans (refsV_le2 _ x y) (by decide))
  by_cases c5 : k = 5
  · subst c5
    go_enter Tryd.func23, Tryd.ntmps23
    go_wp2
    go_ret
    exact ownRet_fresh rfl (below_box _ _) (by simp) (Nat.le_trans (refsV_le2 _ x y) (by decide))
  by_cases c4 : k = 4
  · subst c4
    go_enter Tryd.func23, Tryd.ntmps23
    go_wp2
    go_ret
    exact ownRet_fresh rfl (below_box _ _) (by simp) (Nat.le_trans (refsV_le2 _ x y) (by decide))
  rw [refsV_none x y (k := k) (by omega)]
  have d2 : (k == 2) = false := by simpa using c2
  have d3 : (k == 3) = false := by simpa using c3
  have d4 : (k == 4) = false := by simpa using c4
  have d5 : (k == 5) = false := by simpa using c5
  clear c2 c3 c4 c5
  go_enter Tryd.func23, Tryd.ntmps23
  go_wp2
  go_ret
  exact ownRet_nil (below_box _ _)

set_option maxHeartbeats 400000 in
theorem rrefs_own (k : Int) (x y : VidO) (t : ByteArray) (w : World) (hk : 0 ≤ k ∧ k < 256) : Calls Tryd.prog 44 #[opC k x y t] w (OwnedRet w 39 3 (refsV k x y).length ((refsV k x y).flatMap VidO.cs)) := by
  obtain ⟨hk0, hk1⟩ := hk
  by_cases c2 : k = 2
  · subst c2
    go_enter Tryd.func44, Tryd.ntmps44
    go_wp2
    go_ret
    exact ownRet_fresh rfl (below_box _ _) (by simp) (Nat.le_trans (refsV_le2 _ x y) (by decide))
  by_cases c3 : k = 3
  · subst c3
    go_enter Tryd.func44, Tryd.ntmps44
    go_wp2
    go_ret
    exact ownRet_fresh rfl (below_box _ _) (by simp) (Nat.le_trans (refsV_le2 _ x y) (by decide))
  by_cases c5 : k = 5
  · subst c5
    go_enter Tryd.func44, Tryd.ntmps44
    go_wp2
    go_ret
    exact ownRet_fresh rfl (below_box _ _) (by simp) (Nat.le_trans (refsV_le2 _ x y) (by decide))
  by_cases c4 : k = 4
  · subst c4
    go_enter Tryd.func44, Tryd.ntmps44
    go_wp2
    go_ret
    exact ownRet_fresh rfl (below_box _ _) (by simp) (Nat.le_trans (refsV_le2 _ x y) (by decide))
  rw [refsV_none x y (k := k) (by omega)]
  have d2 : (k == 2) = false := by simpa using c2
  have d3 : (k == 3) = false := by simpa using c3
  have d4 : (k == 4) = false := by simpa using c4
  have d5 : (k == 5) = false := by simpa using c5
  clear c2 c3 c4 c5
  go_enter Tryd.func44, Tryd.ntmps44
  go_wp2
  go_ret
  exact ownRet_nil (below_box _ _)
theorem refsW (o : OpV) (w : World) : Calls Tryd.prog 23 #[.agg (encO o).toArray] w (OwnedRet w 39 3 (refsO o).length ((refsO o).flatMap encV)) := by
  have h := refs_own ((o.1.val : Nat) : Int) (oldV o.2.1) (oldV o.2.2.1) o.2.2.2 w ⟨by omega, by have := o.1.isLt; omega⟩
  rw [refsO_old, old_flat, List.length_map] at h
  exact h
theorem rrefsW (o : OpV) (w : World) : Calls Tryd.prog 44 #[.agg (encO o).toArray] w (OwnedRet w 39 3 (refsO o).length ((refsO o).flatMap encV)) := by
  have h := rrefs_own ((o.1.val : Nat) : Int) (oldV o.2.1) (oldV o.2.2.1) o.2.2.2 w ⟨by omega, by have := o.1.isLt; omega⟩
  rw [refsO_old, old_flat, List.length_map] at h
  exact h
/-- two rows of other types never share a block -/
theorem own_ne {w : World} {b1 b2 : Nat} {e1 e2 : TypeId} {s1 s2 n1 n2 : Nat} {v1 v2 : Value} {x1 x2 : List Value} (h1 : w.ownsRow b1 e1 s1 v1 n1 x1) (h2 : w.ownsRow b2 e2 s2 v2 n2 x2) (he : e1 ≠ e2) : v1.ownBlock = none ∨ v1.ownBlock ≠ v2.ownBlock := by
  rcases h1.2 with ⟨rfl, _⟩ | ⟨g, cap, cur, rfl, _, hh, _⟩
  · exact .inl rfl
  · refine .inr fun h => ?_
    rcases h2.2 with ⟨rfl, _⟩ | ⟨g', cap', cur', rfl, _, hh', _⟩
    · simp [Value.ownBlock] at h
    · have hg : g = g' := by simpa [Value.ownBlock] using h
      subst hg
      rw [hh] at hh'
      injection hh' with hh'
      injection hh' with _ ht _
      exact he ht
section
variable {P : Program} {w w0 : World} {ops : Array Oper} {rest : List Oper} {a : Act} {Q : Exit → Act → World → Prop}
/-- .. and only this row has turned -/
theorem wpList_pushOnly {d : Option Tmp} {ty : TypeId} {pos : String} {after : Array Edge} {s x : Operand} {t e : TypeId} {size bytes : Nat} (T : SlT P t e size bytes)
    {base : Nat} {v : Value} {n : Nat} {xs : List Value} (hown : w0.ownsRow base e size v n xs) (cs : List Value) (hl : cs.length = size) (h1 : ∀ u ∈ cs, u.oneCell' = true) (hbase : base ≤ w0.heap.size)
    (hb : (n + 1) * bytes ≤ 140737488355328) (hm : n + 1 ≤ maxLen)
    (H : Nat) (hH : w0.heap.size = H) (hs : a.eval s = v) (hx : a.eval x = .slice (some ⟨H, 0, none⟩) 1 1) (hw : w = w0.alloc (.cells cs.toArray e))
    (h : ∀ v' w', w'.ownsRow base e size v' (n + 1) (xs ++ cs) → (w0.alloc (.cells cs.toArray e)).grownBy w' v.ownBlock → Below base w0 w' → wpList P ops Q rest (a.put d v') w') :
    wpList P ops Q (⟨d, .call { callee := .builtin .append, args := #[s, x], argTypes := #[t, t] }, ty, pos, after, none⟩ :: rest) a w := by
  obtain ⟨i, z, hi, hz, hsz, hby, hzs⟩ := T.hi
  subst hw hH
  have hown' := hown.alloc (.cells cs.toArray e)
  refine wpList_append_own _ rfl s x t rfl base e i z size bytes T.ht hi hz hsz hby hzs T.pos v n xs hs hown' ⟨w0.heap.size, 0, none⟩ 1 1 cs hx (by omega) (news_new w0 e cs) h1 hm hb (by simp; omega) ?_
  intro v' w' ho hg _
  exact h v' w' ho hg (((Below.refl base w0).alloc hbase _).grown hg (by simp; omega) (fun k hk => (hown'.lt k hk).1))
end

theorem own_base {w : World} {base base' : Nat} {e : TypeId} {size n : Nat} {v : Value} {xs : List Value} (h : w.ownsRow base e size v n xs) (hb : base' ≤ base) : w.ownsRow base' e size v n xs :=
  ⟨h.1, h.2.imp id fun ⟨g, cap, cur, e, hg, r⟩ => ⟨g, cap, cur, e, Nat.le_trans hb hg, r⟩⟩
end Go.Proofs.YtihggkmjalofiaaDoor

/- Which patches come ahead: the document's, walked. -/
namespace Go.Proofs.YtihggkmjalofiaaDoor
open Go.RowKit

def firstDep (id : PidV) : List PidV := if h : 1 < id.2.val then [(id.1, ⟨id.2.val - 1, by have := id.2.isLt; omega⟩)] else []
def opDeps (id : PidV) (o : OpV) : List PidV := ((refsO o).filter fun v => decide (v.1 ≠ id)).map (·.1)
def rawDeps (id : PidV) (l : List OpV) : List PidV := firstDep id ++ l.flatMap (opDeps id)
def depsV (id : PidV) (l : List OpV) : List PidV := setK keyP (rawDeps id l)
theorem opDeps_le (id : PidV) (o : OpV) : (opDeps id o).length ≤ 2 := by
  unfold opDeps
  rw [List.length_map]
  exact Nat.le_trans (List.length_filter_le _ _) (refsO_le o)
theorem rawDeps_le (id : PidV) (l : List OpV) : (rawDeps id l).length ≤ 1 + 2 * l.length := by
  unfold rawDeps
  have h1 : (firstDep id).length ≤ 1 := by unfold firstDep; split <;> simp
  have h2 : (l.flatMap (opDeps id)).length ≤ 2 * l.length := by
    induction l with
    | nil => simp
    | cons o l ih =>
      rw [List.flatMap_cons, List.length_append, List.length_cons]
      have := opDeps_le id o
      omega
  rw [List.length_append]; omega
theorem raw_snoc {id : PidV} {l : List OpV} {k : Nat} {o : OpV} (h : l[k]? = some o) : rawDeps id (l.take (k + 1)) = rawDeps id (l.take k) ++ opDeps id o := by
  unfold rawDeps; rw [take_snoc' h]; simp
def partDeps (id : PidV) (vs : List VidV) : List PidV := (vs.filter fun v => decide (v.1 ≠ id)).map (·.1)
theorem part_snoc_in {id : PidV} {vs : List VidV} {j : Nat} {v : VidV} (h : vs[j]? = some v) (hv : v.1 ≠ id) : partDeps id (vs.take (j + 1)) = partDeps id (vs.take j) ++ [v.1] := by
  unfold partDeps; rw [take_snoc' h]; simp [hv]
theorem part_snoc_out {id : PidV} {vs : List VidV} {j : Nat} {v : VidV} (h : vs[j]? = some v) (hv : v.1 = id) : partDeps id (vs.take (j + 1)) = partDeps id (vs.take j) := by
  unfold partDeps; rw [take_snoc' h]; simp [hv]
theorem part_all {id : PidV} {o : OpV} {j : Nat} (h : j = (refsO o).length) : partDeps id ((refsO o).take j) = opDeps id o := by
  rw [h, List.take_length]; rfl
theorem part_le (id : PidV) (vs : List VidV) (j : Nat) : (partDeps id (vs.take j)).length ≤ j := by
  unfold partDeps
  rw [List.length_map]
  refine Nat.le_trans (List.length_filter_le _ _) ?_
  rw [List.length_take]; omega
theorem vid_pid_range {w : World} {b o : Nat} {v : VidV} (h : w.rangeAt b o (encV v)) : w.rangeAt b o (encP v.1) := fun j u hj => by
  match j, hj with
  | 0, hj => exact h 0 u hj
  | 1, hj => exact h 1 u hj
  | j + 2, hj => simp [encP] at hj
theorem firstDep_cases (id : PidV) : (¬ (1 < ((id.2.val : Nat) : Int)) ∧ firstDep id = []) ∨ (1 < ((id.2.val : Nat) : Int) ∧ ∃ q : PidV, firstDep id = [q] ∧ Hid (encP q = [.int .u8 ((id.1.val : Nat) : Int), .int .u16 (((id.2.val : Nat) : Int) - 1)])) := by
  by_cases h1 : 1 < id.2.val
  · refine .inr ⟨by omega, (id.1, ⟨id.2.val - 1, by have := id.2.isLt; omega⟩), by unfold firstDep; rw [dif_pos h1], ?_⟩
    have : ((id.2.val - 1 : Nat) : Int) = ((id.2.val : Nat) : Int) - 1 := by omega
    simp [encP, Hid, this]
  · exact .inl ⟨by omega, by unfold firstDep; rw [dif_neg h1]⟩
theorem raw_nil (id : PidV) (l : List OpV) : rawDeps id (l.take 0) = firstDep id := by simp [rawDeps]
set_option maxRecDepth 100000 in
set_option maxHeartbeats 8000000 in
theorem rdepsP_own (id : PidV) (l : List OpV) (w : World) (A : Option Addr) (n c : Nat) (hm : n ≤ 300) (h : OpsAt w A n l) :
    Calls Tryd.prog 30 #[.agg (encP id).toArray, .slice A n c] w (OwnedRet w 29 2 (depsV id l).length ((depsV id l).flatMap encP)) := by
  have L := Lib.hid h
  clear h
  have i1 : 0 ≤ ((id.2.val : Nat) : Int) := by omega
  have i2 : ((id.2.val : Nat) : Int) < 65536 := by have := id.2.isLt; omega
  have i3 : 0 ≤ ((id.1.val : Nat) : Int) := by omega
  have i4 : ((id.1.val : Nat) : Int) < 256 := by have := id.1.isLt; omega
  have K : Hid (Blk (w.alloc (.cells (encP id).toArray 29)) w.heap.size 29 (encP id).toArray) := Blk.new _ _ _
  have B0 : Hid (Below w.heap.size w (w.alloc (.cells (encP id).toArray 29))) := below_new _ _
  have hz : (w.alloc (.cells (encP id).toArray 29)).heap.size = w.heap.size + 1 := by go_size
  have p0 : (w.alloc (.cells (encP id).toArray 29)).cell? ⟨w.heap.size, 0, none⟩ = some (.int .u8 ((id.1.val : Nat) : Int)) := K.out.cell 0
  have p1 : (w.alloc (.cells (encP id).toArray 29)).cell? ⟨w.heap.size, 1, none⟩ = some (.int .u16 ((id.2.val : Nat) : Int)) := K.out.cell 1
  have R1 : Hid ((w.alloc (.cells (encP id).toArray 29)).rangeAt w.heap.size 0 (encP id)) := blk_sub K.out fun j v hv => by simpa using hv
  have L1 := Lib.hid (L.out.ext B0.out)
  clear L K
  have hf := firstDep_cases id
  generalize ((id.2.val : Nat) : Int) = s at p1 i1 i2 hf
  generalize ((id.1.val : Nat) : Int) = u at p0 i3 i4 hf
  go_enter Tryd.func30, Tryd.ntmps30
  rcases hf with ⟨h1, hfd⟩ | ⟨h1, first, hfd, hfe⟩
  case' inl => (
    go_upto_region 4 with fail
    have O1 : Hid ((w.alloc (.cells (encP id).toArray 29)).ownsRow (w.heap.size + 1) 29 2 (.slice none 0 0) (rawDeps id (l.take 0)).length ((rawDeps id (l.take 0)).flatMap encP)) := by
      rw [Hid, raw_nil, hfd]; exact World.ownsRow_nil _ _ _ _
    have B1 := Lib.hid (Below.refl (w.heap.size + 1) (w.alloc (.cells (encP id).toArray 29))))
  case' inr => (
    go_upto_region 4 with (first | (refine wpList_lit1 pidSl (encP_len first) (by omega) (by rw [hfe.out]; rfl) ?_) | (at_builtin; refine wpList_push pidSl (base := w.heap.size + 1) (World.ownsRow_nil _ _ _ _) (encP first) rfl (encP_one first) (by rw [hz]; exact Nat.le_refl _) (by decide) (by decide) (by rfl) (by rfl) (by rfl) ?_; intro v1 w1 own1 bel1))
    have O1 : Hid (w1.ownsRow (w.heap.size + 1) 29 2 v1 (rawDeps id (l.take 0)).length ((rawDeps id (l.take 0)).flatMap encP)) := by
      rw [Hid, raw_nil, hfd]; simpa using own1
    have B1 := Lib.hid bel1
    clear own1 bel1 hfe)
  all_goals (
    clear hfd h1 p0 p1 i1 i2 i3 i4
    go_wp2_with fail
    go_loopw [5, 6] (fun v i wr => ∃ (k : Nat), k ≤ n ∧ i = .int .i64 k ∧ Hid (wr.ownsRow (w.heap.size + 1) 29 2 v (rawDeps id (l.take k)).length ((rawDeps id (l.take k)).flatMap encP)) ∧ Hid (Below (w.heap.size + 1) (w.alloc (.cells (encP id).toArray 29)) wr)) (fun _ i _ => n - (intOf i).toNat)
    case atStart => exact ⟨0, by omega, rfl, O1, B1⟩
    case round =>
      clear O1 B1
      obtain ⟨k, hk, rfl, O, B⟩ := hrel
      have hk0 : (0 : Int) ≤ (k : Int) := by omega
      have hws : w.heap.size + 1 ≤ wr.heap.size := by have := B.out.size; rw [hz] at this; exact this
      by_cases hlt : k < n
      · obtain ⟨b, o, x, rfl, hb, hx, R0, hok⟩ := L1.out.at_ hlt
        rw [hz] at hb
        have R0 := Lib.hid (rangeAt_below R0 B.out hb)
        have hlk : (k : Int) < (n : Int) := by omega
        have S := Lib.hid (raw_snoc (id := id) hx)
        clear hx hok
        go_wp2_with (refine wpList_load_mid rfl 41 _ rfl _ _ (by rfl) _ _ R0.out underOp rfl infoOp ?_)
        refine (rrefsW x _).mono ?_
        rintro e w2 ⟨v2, rfl, V2, b2⟩
        have O2 := Lib.hid (own_ext O.out b2)
        have B2 := Lib.hid (B.out.trans (b2.mono hws))
        have V2 := Lib.hid (own_base V2 (Nat.zero_le _))
        clear b2 O R0
        obtain ⟨A2, c2, rfl, hc2, _⟩ := Sl.of_own V2.out
        go_wp2_with fail
        have e0 : rawDeps id (l.take k) ++ partDeps id ((refsO x).take 0) = rawDeps id (l.take k) := by simp [partDeps]
        go_loopw [5, 8] (fun v i wr => ∃ (j : Nat), j ≤ (refsO x).length ∧ i = .int .i64 j ∧ Hid (wr.ownsRow (w.heap.size + 1) 29 2 v (rawDeps id (l.take k) ++ partDeps id ((refsO x).take j)).length ((rawDeps id (l.take k) ++ partDeps id ((refsO x).take j)).flatMap encP)) ∧ Hid (Below (w.heap.size + 1) (w.alloc (.cells (encP id).toArray 29)) wr) ∧ Hid (wr.ownsRow 0 39 3 (.slice A2 (refsO x).length c2) (refsO x).length ((refsO x).flatMap encV))) (fun _ i _ => (refsO x).length - (intOf i).toNat)
        case atStart => exact ⟨0, by omega, rfl, by rw [Hid, e0]; exact O2.out, B2, V2⟩
        case round =>
          clear O2 B2 V2 e0
          obtain ⟨j, hj, rfl, O3, B3, V3⟩ := hrel
          have hj0 : (0 : Int) ≤ (j : Int) := by omega
          have hr2 := refsO_le x
          by_cases hjl : j < (refsO x).length
          · obtain ⟨A', c', he, hcc, P3⟩ := VidsAt.of_own V3.out rfl
            injection he with e1 e2 e3
            subst e1
            clear e2 e3 hcc
            obtain ⟨b', o', y, rfl, hb', hy, R3⟩ := P3.at_ hjl
            have R3 := Lib.hid (vid_pid_range R3)
            have hbz : w.heap.size < wr.heap.size := by have := B3.out.size; rw [hz] at this; omega
            have R2 := Lib.hid (rangeAt_below R1.out B3.out (Nat.lt_succ_self w.heap.size))
            have hlj : (j : Int) < ((refsO x).length : Int) := by omega
            have NE := fun u => neqP y.1 id u
            clear P3
            by_cases hv : y.1 = id
            · have E := Lib.hid (part_snoc_out hy hv)
              have NE' : ∀ u : World, (binOp .neq 29 (.agg (encP y.1).toArray) (.agg (encP id).toArray)).run Tryd.prog u = .ok (.bool false) u := fun u => by rw [NE, decide_eq_true hv]; rfl
              clear NE hv hy
              go_wp2_with fail
              refine wp_region_ext mixedS (by kernel_rfl) ?_
              repeat (first | (refine wpQuiet_load_mid (rangeAt_ext R3.out hb') underPid rfl infoPid rfl rfl ?_; simp only [List.set_cons_succ, List.set_cons_zero]) | (refine wpQuiet_load_mid (rangeAt_ext R2.out hbz) underPid rfl infoPid rfl rfl ?_; simp only [List.set_cons_succ, List.set_cons_zero]) | go_big_quiet_step (fail))
              refine wpQuiet_nil ?_
              rintro _ ⟨z, rfl⟩
              have O3 := Lib.hid (own_ext O3.out z.h)
              have V3 := Lib.hid (own_ext V3.out z.h)
              have B3 := Lib.hid (B3.out.trans (z.h.mono (by omega)))
              rw [← E.out] at O3
              go_wp2_with fail
              go_roundw
              case rel => exact ⟨j + 1, by omega, by go_num, O3, B3, V3⟩
              case measure => simp [intOf]; omega
            · have E := Lib.hid (part_snoc_in hy hv)
              have NE' : ∀ u : World, (binOp .neq 29 (.agg (encP y.1).toArray) (.agg (encP id).toArray)).run Tryd.prog u = .ok (.bool true) u := fun u => by rw [NE, decide_eq_false hv]; rfl
              clear NE hv hy
              have hlen : (rawDeps id (l.take k) ++ partDeps id ((refsO x).take j)).length ≤ 1000 := by
                have h1 := rawDeps_le id (l.take k)
                have h2 := part_le id (refsO x) j
                have h3 := refsO_le x
                rw [List.length_take] at h1
                rw [List.length_append]; omega
              go_wp2_with fail
              refine wp_region_ext mixedS (by kernel_rfl) ?_
              repeat (first | (refine wpQuiet_load_mid (rangeAt_ext R3.out hb') underPid rfl infoPid rfl rfl ?_; simp only [List.set_cons_succ, List.set_cons_zero]) | (refine wpQuiet_load_mid (rangeAt_ext R2.out hbz) underPid rfl infoPid rfl rfl ?_; simp only [List.set_cons_succ, List.set_cons_zero]) | go_big_quiet_step (fail))
              refine wpQuiet_nil ?_
              rintro _ ⟨z, rfl⟩
              have O3 := Lib.hid (own_ext O3.out z.h)
              have V3 := Lib.hid (own_ext V3.out z.h)
              have B3 := Lib.hid (B3.out.trans (z.h.mono (by omega)))
              have R3 := Lib.hid (rangeAt_below R3.out z.h hb')
              have hws3 : w.heap.size + 1 ≤ z.w.heap.size := by have := z.h.size; omega
              generalize z.w = w3 at *
              clear z
              have E2 : rawDeps id (l.take k) ++ partDeps id ((refsO x).take (j + 1)) = (rawDeps id (l.take k) ++ partDeps id ((refsO x).take j)) ++ [y.1] := by rw [E.out, List.append_assoc]
              have E2 := Lib.hid E2
              clear E
              generalize rawDeps id (l.take k) ++ partDeps id ((refsO x).take j) = acc at O3 E2 hlen
              go_wp2_with (first | (refine wpList_load_mid rfl 29 _ rfl _ _ (by rfl) _ _ R3.out underPid rfl infoPid ?_) | (refine wpList_lit1 pidSl (encP_len y.1) (by omega) (by rfl) ?_) | (at_builtin; refine wpList_pushOnly pidSl O3.out (encP y.1) rfl (encP_one y.1) hws3 (by omega) (by unfold maxLen; omega) _ rfl (by rfl) (by rfl) (by rfl) ?_; intro v5 w5 own5 gr5 bel5))
              have V5 := Lib.hid ((V3.out.alloc _).kept gr5 (own_ne (V3.out.alloc _) (O3.out.alloc (.cells (encP y.1).toArray 29)) (by decide)))
              have B5 := Lib.hid (B3.out.trans bel5)
              have O5 : Hid (w5.ownsRow (w.heap.size + 1) 29 2 v5 (rawDeps id (l.take k) ++ partDeps id ((refsO x).take (j + 1))).length ((rawDeps id (l.take k) ++ partDeps id ((refsO x).take (j + 1))).flatMap encP)) := by
                rw [Hid, E2.out]; simp only [flat_snocP, List.length_append, List.length_cons, List.length_nil, Nat.zero_add]; exact own5
              clear own5 bel5 gr5 O3 B3 V3
              go_roundw
              case rel => exact ⟨j + 1, by omega, by go_num, O5, B5, V5⟩
              case measure => simp [intOf]; omega
          · have E := Lib.hid (part_all (id := id) (show j = (refsO x).length by omega))
            rw [E.out, ← S.out] at O3
            have hlj : ¬ ((j : Int) < ((refsO x).length : Int)) := by omega
            clear E S
            go_wp2_with fail
            go_roundw
            case rel => exact ⟨k + 1, by omega, by go_num, O3, B3⟩
            case measure => simp [intOf]; omega
      · rw [List.take_of_length_le (by rw [L1.out.len]; omega)] at O
        have hlen : (rawDeps id l).length ≤ 100000 := by
          have h1 := rawDeps_le id l
          rw [L1.out.len] at h1; omega
        obtain ⟨A3, c3, rfl, hc3, P3⟩ := PidsAt.of_own O.out rfl
        have hlk : ¬ ((k : Int) < (n : Int)) := by omega
        clear O hc3
        go_wp2_with fail
        refine (rsetP_own _ _ A3 _ c3 P3 hlen).mono ?_
        rintro e w2 ⟨v4, rfl, o4, b4⟩
        have O4 := Lib.hid (own_mono' o4 (show w.heap.size ≤ wr.heap.size by have := B.out.size; omega))
        clear o4
        go_wp2
        go_ret
        exact ⟨v4, rfl, O4.out, (B0.out.trans (B.out.mono (Nat.le_succ _))).trans (b4.mono (by omega))⟩)
theorem rdepsP (id : PidV) (l : List OpV) (w : World) (A : Option Addr) (n c : Nat) (hm : n ≤ 300) (h : OpsAt w A n l) :
    Calls Tryd.prog 30 #[.agg (encP id).toArray, .slice A n c] w (RetSl w 2 (depsV id l).length ((depsV id l).flatMap encP)) := (rdepsP_own id l w A n c hm h).mono fun _ _ h => h.sl
end Go.Proofs.YtihggkmjalofiaaDoor

/- Whether two patches are the same: the parts, walked. -/
namespace Go.Proofs.YtihggkmjalofiaaDoor
open Go.RowKit

theorem neqO_any (a1 a2 a3 a4 a5 a6 a7 b1 b2 b3 b4 b5 b6 b7 : Int) (s t : ByteArray) (w : World) : (binOp .neq 41 (.agg #[.int .u8 a1, .int .u8 a2, .int .u16 a3, .int .u8 a4, .int .u8 a5, .int .u16 a6, .int .u8 a7, .string s]) (.agg #[.int .u8 b1, .int .u8 b2, .int .u16 b3, .int .u8 b4, .int .u8 b5, .int .u16 b6, .int .u8 b7, .string t])).run Tryd.prog w = .ok (.bool (!decide (a1 = b1 ∧ a2 = b2 ∧ a3 = b3 ∧ a4 = b4 ∧ a5 = b5 ∧ a6 = b6 ∧ a7 = b7 ∧ s.toList = t.toList))) w := by
  simp [go_sem]
  by_cases h1 : a1 = b1
  · by_cases h2 : a2 = b2
    · by_cases h3 : a3 = b3
      · by_cases h4 : a4 = b4
        · by_cases h5 : a5 = b5
          · by_cases h6 : a6 = b6
            · by_cases h7 : a7 = b7
              · by_cases h8 : s.toList = t.toList <;> simp [h1, h2, h3, h4, h5, h6, h7, h8]
              · simp [h7]
            · simp [h6]
          · simp [h5]
        · simp [h4]
      · simp [h3]
    · simp [h2]
  · simp [h1]
theorem str_eq {s t : ByteArray} (e : s.toList = t.toList) : s = t := by
  rw [ByteArray.toList_eq, ByteArray.toList_eq] at e
  exact ByteArray.ext (Array.ext' e)
theorem fin_eq {n : Nat} {a b : Fin n} (h : ((a.val : Nat) : Int) = ((b.val : Nat) : Int)) : a = b := Fin.ext (by omega)
theorem opV_iff (x y : OpV) : (((x.1.val : Nat) : Int) = ((y.1.val : Nat) : Int) ∧ ((x.2.1.1.1.val : Nat) : Int) = ((y.2.1.1.1.val : Nat) : Int) ∧ ((x.2.1.1.2.val : Nat) : Int) = ((y.2.1.1.2.val : Nat) : Int) ∧ ((x.2.1.2.val : Nat) : Int) = ((y.2.1.2.val : Nat) : Int) ∧ ((x.2.2.1.1.1.val : Nat) : Int) = ((y.2.2.1.1.1.val : Nat) : Int) ∧ ((x.2.2.1.1.2.val : Nat) : Int) = ((y.2.2.1.1.2.val : Nat) : Int) ∧ ((x.2.2.1.2.val : Nat) : Int) = ((y.2.2.1.2.val : Nat) : Int) ∧ x.2.2.2.toList = y.2.2.2.toList) ↔ x = y := by
  constructor
  · rintro ⟨h1, h2, h3, h4, h5, h6, h7, h8⟩
    exact Prod.ext (fin_eq h1) (Prod.ext (Prod.ext (Prod.ext (fin_eq h2) (fin_eq h3)) (fin_eq h4)) (Prod.ext (Prod.ext (Prod.ext (fin_eq h5) (fin_eq h6)) (fin_eq h7)) (str_eq h8)))
  · rintro rfl; exact ⟨rfl, rfl, rfl, rfl, rfl, rfl, rfl, rfl⟩
theorem neqO (x y : OpV) (w : World) : (binOp .neq 41 (.agg (encO x).toArray) (.agg (encO y).toArray)).run Tryd.prog w = .ok (.bool (!decide (x = y))) w := by
  rw [show decide (x = y) = _ from (decide_eq_decide.2 (opV_iff x y)).symm]
  exact neqO_any _ _ _ _ _ _ _ _ _ _ _ _ _ _ _ _ w
theorem encsO_one (l : List OpV) : ∀ u ∈ l.flatMap encO, u.oneCell' = true := by
  intro u hu
  obtain ⟨p, _, hp⟩ := List.mem_flatMap.1 hu
  exact encO_one p u hp
set_option maxRecDepth 100000 in
set_option maxHeartbeats 1000000 in
theorem equalP (l m : List PidV) (w : World) (A A' : Option Addr) (n n' c c' : Nat) (h : PidsAt w A n l) (h' : PidsAt w A' n' m) (hm : n ≤ maxLen) :
    Calls Tryd.prog 35 #[.slice A n c, .slice A' n' c'] w (RetD w (.bool (decide (l = m)))) := by
  unfold maxLen at hm
  by_cases hne : n = n'
  · subst hne
    have H := Lib.hid h
    have H' := Lib.hid h'
    clear h h'
    go_enter Tryd.func35, Tryd.ntmps35
    go_wp2_with fail
    go_loopw [13] (fun i wr => ∃ k : Nat, k ≤ n ∧ i = .int .i64 k ∧ Hid (l.take k = m.take k) ∧ ∃ q, wr = w.drewN q) (fun i _ => n - (intOf i).toNat)
    case atStart => exact ⟨0, by omega, rfl, rfl, 0, rfl⟩
    case round =>
      obtain ⟨k, hk, rfl, T, q, rfl⟩ := hrel
      by_cases hlt : k < n
      · obtain ⟨b, o, x, rfl, hb, hx, R1⟩ := H.out.at_ hlt
        obtain ⟨b', o', y, rfl, hb', hy, R2⟩ := H'.out.at_ hlt
        have R1 := Lib.hid R1
        have R2 := Lib.hid R2
        have hlk : (k : Int) < (n : Int) := by omega
        have hk0 : (0 : Int) ≤ (k : Int) := by omega
        have NE := fun u => neqP x y u
        by_cases e : x = y
        · subst e
          have N := Lib.hid (take_eq_snoc T.out hx hy)
          have NE' : ∀ u : World, (binOp .neq 29 (.agg (encP x).toArray) (.agg (encP x).toArray)).run Tryd.prog u = .ok (.bool false) u := fun u => by rw [NE]; simp
          clear NE hx hy T
          go_wp2_with fail
          refine wp_region_quiet_lit (by kernel_rfl) (by kernel_rfl) ?_
          repeat (first | (refine wpQuiet_load_mid (rangeAt_drewN2 R1.out) underPid rfl infoPid rfl rfl ?_; simp only [List.set_cons_succ, List.set_cons_zero]) | (refine wpQuiet_load_mid (rangeAt_drewN2 R2.out) underPid rfl infoPid rfl rfl ?_; simp only [List.set_cons_succ, List.set_cons_zero]) | go_big_quiet_step (fail))
          refine wpQuiet_nil ?_
          rintro _ ⟨nq, rfl⟩
          go_wp2_with fail
          go_roundw
          case rel => exact ⟨k + 1, by omega, by go_num, N.out, ⟨_, rfl⟩⟩
          case measure => simp [intOf]; omega
        · have F : Hid (decide (l = m) = false) := decide_eq_false fun e2 => e (by rw [e2, hy] at hx; exact (Option.some.inj hx).symm)
          have NE' : ∀ u : World, (binOp .neq 29 (.agg (encP x).toArray) (.agg (encP y).toArray)).run Tryd.prog u = .ok (.bool true) u := fun u => by rw [NE, decide_eq_false e]; rfl
          clear NE hx hy T e
          go_wp2_with fail
          refine wp_region_quiet_lit (by kernel_rfl) (by kernel_rfl) ?_
          repeat (first | (refine wpQuiet_load_mid (rangeAt_drewN2 R1.out) underPid rfl infoPid rfl rfl ?_; simp only [List.set_cons_succ, List.set_cons_zero]) | (refine wpQuiet_load_mid (rangeAt_drewN2 R2.out) underPid rfl infoPid rfl rfl ?_; simp only [List.set_cons_succ, List.set_cons_zero]) | go_big_quiet_step (fail))
          refine wpQuiet_nil ?_
          rintro _ ⟨nq, rfl⟩
          go_wp2
          go_ret
          exact ⟨ret_bool F.out.symm, _, World.drewN_drewN _ _ _⟩
      · have F : Hid (decide (l = m) = true) := by
          have e := T.out
          rw [List.take_of_length_le (by rw [H.out.len]; omega), List.take_of_length_le (by rw [H'.out.len]; omega)] at e
          exact decide_eq_true e
        clear T
        go_wp2
        go_ret
        exact ⟨ret_bool F.out.symm, q, rfl⟩
  · have F : Hid (decide (l = m) = false) := decide_eq_false fun e => hne (by rw [← h.len, ← h'.len, e])
    clear h h'
    have d1 : ((n : Int) != (n' : Int)) = true := bne_iff_ne.2 (by omega)
    go_enter Tryd.func35, Tryd.ntmps35
    go_wp2
    go_ret
    exact ⟨ret_bool F.out.symm, 0, rfl⟩
set_option maxRecDepth 100000 in
set_option maxHeartbeats 1000000 in
theorem cloneO (l : List OpV) (w : World) (A : Option Addr) (n c : Nat) (hm : n ≤ 100000) (h : OpsAt w A n l) :
    Calls Tryd.prog 16 #[.slice A n c] w (OwnedRet w 41 8 n (l.flatMap encO)) := by
  have HE : ∀ u : World, (binOp .eql 31 (.slice A n c) (.slice none 0 0)).run Tryd.prog u = .ok (.bool A.isNone) u := fun u => Lib.run_eql_slice_nil u _ _ A n c 0 0 Tryd.underlying31
  have HS := Lib.hid h.sl
  have HL := Lib.hid h.len
  clear h
  cases A with
  | none =>
    have hn0 : n = 0 := by
      rcases Nat.eq_zero_or_pos n with h0 | h0
      · exact h0
      · obtain ⟨b, o, e, _⟩ := HS.out.2 h0; cases e
    subst hn0
    have hl : Hid (l = []) := List.length_eq_zero_iff.1 HL.out
    have HE' : ∀ u : World, (binOp .eql 31 (.slice none 0 c) (.slice none 0 0)).run Tryd.prog u = .ok (.bool true) u := HE
    clear HE
    go_enter Tryd.func16, Tryd.ntmps16
    go_wp2
    go_ret
    refine ⟨_, rfl, ?_, Below.refl _ _⟩
    rw [hl.out]
    exact World.ownsRow_nil _ _ _ _
  | some a =>
    have HE' : ∀ u : World, (binOp .eql 31 (.slice (some a) n c) (.slice none 0 0)).run Tryd.prog u = .ok (.bool false) u := HE
    clear HE
    have B0 : Hid (Below w.heap.size w (w.alloc (.cells #[] 41))) := below_new _ _
    have O0 : Hid ((w.alloc (.cells #[] 41)).ownsRow w.heap.size 41 8 (.slice (some ⟨w.heap.size, 0, none⟩) 0 0) 0 []) :=
      ⟨rfl, .inr ⟨w.heap.size, 0, #[], rfl, Nat.le_refl _, heap_alloc_new w _, Nat.le_refl _, by simp, rfl, rfl⟩⟩
    have S0 : Hid (Sl (w.alloc (.cells #[] 41)) w.heap.size 8 (some a) n (l.flatMap encO)) := HS.out.below B0.out (Nat.le_refl _)
    go_enter Tryd.func16, Tryd.ntmps16
    go_wp2_with (at_builtin; refine wpList_cat opSl O0.out S0.out (encsO_one l) B0.out.size (by omega) (by unfold maxLen; omega) (by rfl) (by rfl) ?_)
    intro v' w' ho hb
    rw [Nat.zero_add, List.nil_append] at ho
    have O1 := Lib.hid ho
    have B1 := Lib.hid (B0.out.trans hb)
    clear ho hb
    obtain ⟨A2, c2, hv, _, _⟩ := Sl.of_own O1.out
    subst hv
    go_wp2
    go_ret
    exact ⟨_, rfl, O1.out, B1.out⟩
end Go.Proofs.YtihggkmjalofiaaDoor

/- Patches as they lie in memory; whether two are the same, walked. -/
namespace Go.Proofs.YtihggkmjalofiaaDoor
open Go.RowKit

abbrev PatV := PidV × List PidV × List OpV
/-- a patch's cells -/
def patC (id : PidV) (A : Option Addr) (n c : Nat) (A' : Option Addr) (n' c' : Nat) : List Value := [.int .u8 ((id.1.val : Nat) : Int), .int .u16 ((id.2.val : Nat) : Int), .slice A n c, .slice A' n' c']
theorem patC_pid {w : World} {g : Nat} {t : TypeId} {id : PidV} {A : Option Addr} {n c : Nat} {A' : Option Addr} {n' c' : Nat} (h : Blk w g t (patC id A n c A' n' c').toArray) : w.rangeAt g 0 (encP id) :=
  blk_sub h fun j v hj => by
    match j, hj with
    | 0, hj => exact hj
    | 1, hj => exact hj
    | j + 2, hj => simp [encP] at hj
/-- a patch as it lies -/
structure PatAt (w : World) (cs : List Value) (p : PatV) : Prop where
  ex : ∃ A c A' c', cs = patC p.1 A p.2.1.length c A' p.2.2.length c' ∧ PidsAt w A p.2.1.length p.2.1 ∧ OpsAt w A' p.2.2.length p.2.2
  len1 : p.2.1.length ≤ maxLen
  len2 : p.2.2.length ≤ maxLen
theorem PatAt.ext {w w' : World} {cs : List Value} {p : PatV} (h : PatAt w cs p) (hb : Below w.heap.size w w') : PatAt w' cs p := by
  obtain ⟨⟨A, c, A', c', e, h1, h2⟩, h3, h4⟩ := h
  exact ⟨⟨A, c, A', c', e, h1.ext hb, h2.ext hb⟩, h3, h4⟩
theorem patV_eq (p q : PatV) : p = q ↔ p.1 = q.1 ∧ p.2.1 = q.2.1 ∧ p.2.2 = q.2.2 :=
  ⟨fun h => by rw [h]; exact ⟨rfl, rfl, rfl⟩, fun ⟨h1, h2, h3⟩ => Prod.ext h1 (Prod.ext h2 h3)⟩
instance : DecidableEq PatV := fun p q => decidable_of_iff _ (patV_eq p q).symm
theorem PidsAt.drewN {w : World} {A : Option Addr} {n : Nat} {l : List PidV} (h : PidsAt w A n l) (u : Nat) : PidsAt (w.drewN u) A n l := ⟨h.len, h.sl⟩
theorem OpsAt.drewN {w : World} {A : Option Addr} {n : Nat} {l : List OpV} (h : OpsAt w A n l) (u : Nat) : OpsAt (w.drewN u) A n l := ⟨h.len, h.sl, h.ok⟩
theorem infoPat : (Tryd.prog.info? 33).map (·.size) = some 4 := by kernel_rfl
end Go.Proofs.YtihggkmjalofiaaDoor
