/- Texts of general use, one behind another. -/
import Derived.Test.YtihggkmjalofiaaGreatDoorGras
import Derived.Test.YtihggkmjalofiaaGreatDoorPcds
import Derived.Test.YtihggkmjalofiaaGreatDoorMrc
import Derived.Test.YtihggkmjalofiaaGreatDoorGen
import Derived.Test.YtihggkmjalofiaaGreatDoorIdxw
import Derived.Test.YtihggkmjalofiaaGreatDoorGrhs
import Derived.Test.YtihggkmjalofiaaGreatDoorGrjs
import Derived.Test.YtihggkmjalofiaaGreatDoorLists

/- The rows of a census: plain laws; no program in sight. -/
namespace Go.Proofs.YtihggkmjalofiaaGreatDoor

abbrev RowR := Int × Int × Int × Int × Int × Int × Int × Int × Int
def encR (r : RowR) : List Value := [.int .u8 r.1, .int .i64 r.2.1, .int .i64 r.2.2.1, .int .i64 r.2.2.2.1, .int .i64 r.2.2.2.2.1, .int .i64 r.2.2.2.2.2.1, .int .i64 r.2.2.2.2.2.2.1, .int .i64 r.2.2.2.2.2.2.2.1, .int .i64 r.2.2.2.2.2.2.2.2]
theorem encR_len (r : RowR) : (encR r).length = 9 := rfl
theorem encR_one (r : RowR) : ∀ u ∈ encR r, u.oneCell' = true := by simp [encR, Value.oneCell']
def zeroR : RowR := (0, 0, 0, 0, 0, 0, 0, 0, 0)
def kindN (k : Nat) (l : List OpV) : Nat := (l.filter fun o => decide (o.1.val = k)).length
def kindS (k : Nat) (L : List PatV) : Nat := (L.map fun p => kindN k p.2.2).sum
def bytesS (L : List PatV) : Nat := (L.map fun p => (patBytes p).length).sum
def ofA (L : List PatV) (a : Nat) : List PatV := L.filter fun p => decide (p.1.1.val = a)
def aliveB (x : VertV) (a : Nat) : Bool := decide (x.1.1.1.val = a) && !x.2.2.2.2
def aliveA (V : List VertV) (a : Nat) : Nat := (V.filter fun x => aliveB x a).length
def rowM (a : Nat) (M : List PatV) (al : Nat) : RowR := ((a : Nat), (M.length : Nat), (bytesS M : Nat), (kindS 1 M : Nat), (kindS 2 M : Nat), (kindS 3 M : Nat), (kindS 4 M : Nat), (kindS 5 M : Nat), (al : Nat))
def authT (M : List PatV) (a : Nat) : Nat := if M.length = 0 then 0 else a
def rowT (L : List PatV) (V : List VertV) (a : Nat) : RowR := rowM (authT (ofA L a) a) (ofA L a) (aliveA V a)
def tabT (L : List PatV) (V : List VertV) : List RowR := (List.range 65).map (rowT L V)
def rowC (L : List PatV) (a : Nat) : RowR := rowM a (ofA L a) (aliveA (vertsL L) a)
def hasR (r : RowR) : Bool := !decide (r.2.1 = 0)
def rowsC (L : List PatV) : List RowR := ((List.range 65).map (rowC L)).filter hasR
theorem tabT_len (L : List PatV) (V : List VertV) : (tabT L V).length = 65 := by unfold tabT; rw [List.length_map, List.length_range]
theorem tabT_at (L : List PatV) (V : List VertV) {a : Nat} (h : a < 65) : (tabT L V)[a]? = some (rowT L V a) := by unfold tabT; rw [List.getElem?_map, List.getElem?_range h]; rfl
theorem kindS_snoc (k : Nat) (L : List PatV) (p : PatV) : kindS k (L ++ [p]) = kindS k L + kindN k p.2.2 := by unfold kindS; simp
theorem bytesS_snoc (L : List PatV) (p : PatV) : bytesS (L ++ [p]) = bytesS L + (patBytes p).length := by unfold bytesS; simp
/-- a patch more -/
def addR (r : RowR) (p : PatV) : RowR := ((p.1.1.val : Nat), r.2.1 + 1, r.2.2.1 + ((patBytes p).length : Nat), r.2.2.2.1 + (kindN 1 p.2.2 : Nat), r.2.2.2.2.1 + (kindN 2 p.2.2 : Nat), r.2.2.2.2.2.1 + (kindN 3 p.2.2 : Nat), r.2.2.2.2.2.2.1 + (kindN 4 p.2.2 : Nat), r.2.2.2.2.2.2.2.1 + (kindN 5 p.2.2 : Nat), r.2.2.2.2.2.2.2.2)
def liveR (r : RowR) : RowR := (r.1, r.2.1, r.2.2.1, r.2.2.2.1, r.2.2.2.2.1, r.2.2.2.2.2.1, r.2.2.2.2.2.2.1, r.2.2.2.2.2.2.2.1, r.2.2.2.2.2.2.2.2 + 1)
theorem ofA_snoc_ne {L : List PatV} {p : PatV} {a : Nat} (h : p.1.1.val ≠ a) : ofA (L ++ [p]) a = ofA L a := by unfold ofA; rw [List.filter_append, List.filter_cons_of_neg (by simpa using h)]; simp
theorem ofA_snoc_eq (L : List PatV) (p : PatV) : ofA (L ++ [p]) p.1.1.val = ofA L p.1.1.val ++ [p] := by unfold ofA; rw [List.filter_append, List.filter_cons_of_pos (by simp)]; simp
theorem rowT_put (L : List PatV) (V : List VertV) (p : PatV) : rowT (L ++ [p]) V p.1.1.val = addR (rowT L V p.1.1.val) p := by
 unfold rowT
 rw [ofA_snoc_eq]
 unfold rowM addR authT
 rw [if_neg (by rw [List.length_append]; simp)]
 simp only [kindS_snoc, bytesS_snoc, List.length_append, List.length_cons, List.length_nil]
 simp
theorem tab_put (L : List PatV) (V : List VertV) (p : PatV) : tabT (L ++ [p]) V = (tabT L V).set p.1.1.val (addR (rowT L V p.1.1.val) p) := by
 apply List.ext_getElem?
 intro i
 unfold tabT
 rw [List.getElem?_set, List.getElem?_map, List.getElem?_map, List.length_map, List.length_range]
 by_cases hi : i < 65
 ·rw [List.getElem?_range hi, Option.map_some, Option.map_some]
  by_cases h : p.1.1.val = i
  ·rw [if_pos h, if_pos (by omega), ← rowT_put, h]
  ·rw [if_neg h]
   unfold rowT
   rw [ofA_snoc_ne h]
 ·rw [List.getElem?_eq_none (by rw [List.length_range]; omega)]
  split
  ·rw [if_neg (by omega)]; rfl
  ·rfl
theorem aliveA_snoc (V : List VertV) (x : VertV) (a : Nat) : aliveA (V ++ [x]) a = aliveA V a + (if aliveB x a = true then 1 else 0) := by
 unfold aliveA
 rw [List.filter_append, List.length_append]
 congr 1
 by_cases h : aliveB x a = true
 ·rw [if_pos h, List.filter_cons_of_pos (p := fun x => aliveB x a) h]; rfl
 ·rw [if_neg h, List.filter_cons_of_neg (p := fun x => aliveB x a) h]; rfl
theorem tab_dead (L : List PatV) (V : List VertV) (x : VertV) (h : x.2.2.2.2 = true) : tabT L (V ++ [x]) = tabT L V := by
 unfold tabT
 refine List.map_congr_left fun a _ => ?_
 unfold rowT
 rw [aliveA_snoc, if_neg (by unfold aliveB; rw [h]; simp), Nat.add_zero]
theorem rowT_live (L : List PatV) (V : List VertV) (x : VertV) (h : x.2.2.2.2 = false) : rowT L (V ++ [x]) x.1.1.1.val = liveR (rowT L V x.1.1.1.val) := by
 unfold rowT
 rw [aliveA_snoc, if_pos (by unfold aliveB; rw [h]; simp)]
 unfold rowM liveR
 simp
theorem tab_live (L : List PatV) (V : List VertV) (x : VertV) (h : x.2.2.2.2 = false) : tabT L (V ++ [x]) = (tabT L V).set x.1.1.1.val (liveR (rowT L V x.1.1.1.val)) := by
 apply List.ext_getElem?
 intro i
 unfold tabT
 rw [List.getElem?_set, List.getElem?_map, List.getElem?_map, List.length_map, List.length_range]
 by_cases hi : i < 65
 ·rw [List.getElem?_range hi, Option.map_some, Option.map_some]
  by_cases e : x.1.1.1.val = i
  ·rw [if_pos e, if_pos (by omega), ← rowT_live L V x h, e]
  ·rw [if_neg e]
   unfold rowT
   rw [aliveA_snoc, if_neg (by unfold aliveB; rw [decide_eq_false e]; simp), Nat.add_zero]
 ·rw [List.getElem?_eq_none (by rw [List.length_range]; omega)]
  split
  ·rw [if_neg (by omega)]; rfl
  ·rfl
theorem filter_map_two {α β : Type} (f g : α → β) (q : β → Bool) : ∀ l : List α, (∀ a ∈ l, q (f a) = q (g a) ∧ (q (g a) = true → f a = g a)) → (l.map f).filter q = (l.map g).filter q
 | [], _ => rfl
 | a :: l, h => by
  have h1 := h a (List.mem_cons_self ..)
  have h2 := filter_map_two f g q l fun b hb => h b (List.mem_cons_of_mem _ hb)
  rw [List.map_cons, List.map_cons]
  by_cases hq : q (g a) = true
  ·rw [List.filter_cons_of_pos (by rw [h1.1]; exact hq), List.filter_cons_of_pos hq, h2, h1.2 hq]
  ·rw [List.filter_cons_of_neg (by rw [h1.1]; exact hq), List.filter_cons_of_neg hq, h2]
theorem tab_rows (L : List PatV) : (tabT L (vertsL L)).filter hasR = rowsC L := by
 unfold tabT rowsC
 refine filter_map_two _ _ _ _ fun a _ => ⟨rfl, fun h => ?_⟩
 unfold rowT rowC
 have hl : (ofA L a).length ≠ 0 := by
  unfold rowC hasR rowM at h
  simpa using h
 unfold authT
 rw [if_neg hl]
end Go.Proofs.YtihggkmjalofiaaGreatDoor

/- A census' rows as they lie; what a patch adds to one: walked. -/
namespace Go.Proofs.YtihggkmjalofiaaGreatDoor
open Go.RowKit

theorem flat_set9 {α : Type} {enc : α → List Value} {size : Nat} (henc : ∀ x, (enc x).length = size) : ∀ (l : List α) (k j : Nat) (x y : α) (v : Value), l[k]? = some x → j < size → enc y = (enc x).set j v → (l.flatMap enc).set (k * size + j) v = (l.set k y).flatMap enc
 | [], k, j, x, y, v, h, _, _ => by simp at h
 | a :: l, 0, j, x, y, v, h, hj, he => by
  obtain rfl : a = x := by simpa using h
  rw [List.flatMap_cons, List.set_cons_zero, List.flatMap_cons, he, Nat.zero_mul, Nat.zero_add, List.set_append_left _ _ (by rw [henc]; exact hj)]
 | a :: l, k + 1, j, x, y, v, h, hj, he => by
  have e : (k + 1) * size + j = size + (k * size + j) := by rw [Nat.succ_mul]; omega
  rw [List.flatMap_cons, List.set_cons_succ, List.flatMap_cons, List.set_append_right _ _ (by rw [henc]; omega), henc, e, Nat.add_sub_cancel_left, flat_set9 henc l k j x y v (by simpa using h) hj he]
/-- rows, one behind another, in a block -/
def RowIn (w : World) (b : Nat) (t : TypeId) (L : List RowR) : Prop := Blk w b t (L.flatMap encR).toArray
section
variable {w : World} {b : Nat} {t : TypeId} {L : List RowR} {k : Nat} {r : RowR}
theorem tab_cell (h : RowIn w b t L) (hk : L[k]? = some r) {j : Nat} (hj : j < 9) : w.cell? ⟨b, k * 9 + j, none⟩ = (encR r)[j]? := by
 have hl := (List.getElem?_eq_some_iff.1 hk).1
 rw [Blk.cell h, List.getElem?_toArray, flatMap_get encR L (fun x _ => encR_len x) k j hl hj]
 congr 2
 exact (List.getElem?_eq_some_iff.1 hk).2
theorem tab_set (h : RowIn w b t L) (hk : L[k]? = some r) {j : Nat} (hj : j < 9) {v : Value} {r' : RowR} (he : encR r' = (encR r).set j v) : RowIn (w.setCell ⟨b, k * 9 + j, none⟩ v) b t (L.set k r') := by
 have h1 := Blk.set_ h (k * 9 + j) v
 unfold RowIn
 rw [← flat_set9 (enc := encR) encR_len L k j r r' v hk hj he]
 simpa using h1
theorem RowIn.kept {w' : World} {F : Nat → Prop} (h : RowIn w b t L) (hk : Kept F w w') (hn : ¬ F b) : RowIn w' b t L := hk.blk h hn
theorem RowIn.ext {w' : World} (h : RowIn w b t L) (hb : Below w.heap.size w w') : RowIn w' b t L := Blk.ext h hb
end
theorem set_setR {L : List RowR} {k : Nat} (x y : RowR) : (L.set k x).set k y = L.set k y := by
 rw [List.set_set]
theorem get_setR {L : List RowR} {k : Nat} {r : RowR} (h : L[k]? = some r) (x : RowR) : (L.set k x)[k]? = some x := by
 rw [List.getElem?_set_self (List.getElem?_eq_some_iff.1 h).1]
def cntC : List Value := [.int .u8 1, .func (.func 219) #[] #[], .int .u8 2, .func (.func 220) #[] #[], .int .u8 3, .func (.func 221) #[] #[], .int .u8 4, .func (.func 222) #[] #[], .int .u8 5, .func (.func 223) #[] #[]]
theorem cntSl : SlT Tryz.prog 218 222 2 16 := slT_of Tryz.underlying218 (z := .agg #[.int .u8 0, .nilFunc]) (by kernel_rfl) rfl (by omega)
theorem cnt1_any (b o : Nat) (w : World) : Calls Tryz.prog 219 #[.pointer (some ⟨b, o, none⟩)] w (Ret w (.pointer (some ⟨b, o + 3, none⟩))) := by
 go_enter Tryz.func219, Tryz.ntmps219
 go_wp2
 go_ret
 exact ⟨rfl, rfl⟩
theorem cnt2_any (b o : Nat) (w : World) : Calls Tryz.prog 220 #[.pointer (some ⟨b, o, none⟩)] w (Ret w (.pointer (some ⟨b, o + 4, none⟩))) := by
 go_enter Tryz.func220, Tryz.ntmps220
 go_wp2
 go_ret
 exact ⟨rfl, rfl⟩
theorem cnt3_any (b o : Nat) (w : World) : Calls Tryz.prog 221 #[.pointer (some ⟨b, o, none⟩)] w (Ret w (.pointer (some ⟨b, o + 5, none⟩))) := by
 go_enter Tryz.func221, Tryz.ntmps221
 go_wp2
 go_ret
 exact ⟨rfl, rfl⟩
theorem cnt4_any (b o : Nat) (w : World) : Calls Tryz.prog 222 #[.pointer (some ⟨b, o, none⟩)] w (Ret w (.pointer (some ⟨b, o + 6, none⟩))) := by
 go_enter Tryz.func222, Tryz.ntmps222
 go_wp2
 go_ret
 exact ⟨rfl, rfl⟩
theorem cnt5_any (b o : Nat) (w : World) : Calls Tryz.prog 223 #[.pointer (some ⟨b, o, none⟩)] w (Ret w (.pointer (some ⟨b, o + 7, none⟩))) := by
 go_enter Tryz.func223, Tryz.ntmps223
 go_wp2
 go_ret
 exact ⟨rfl, rfl⟩
/-- one of the five -/
theorem cnt_one {i : Nat} (h : i < 5) : ∃ f, cntC[i * 2]? = some (.int .u8 ((i : Int) + 1)) ∧ cntC[i * 2 + 1]? = some (.func (.func f) #[] #[]) ∧ (∀ args w, (callFunc f args).run Tryz.prog w = .ok (.enter f args) w) ∧ ∀ (b o : Nat) (w : World), Calls Tryz.prog f #[.pointer (some ⟨b, o, none⟩)] w (Ret w (.pointer (some ⟨b, o + (3 + i), none⟩))) := by
 match i, h with
 | 0, _ => exact ⟨_, rfl, rfl, enters_of Tryz.func219 (by kernel_rfl) rfl, cnt1_any⟩
 | 1, _ => exact ⟨_, rfl, rfl, enters_of Tryz.func220 (by kernel_rfl) rfl, cnt2_any⟩
 | 2, _ => exact ⟨_, rfl, rfl, enters_of Tryz.func221 (by kernel_rfl) rfl, cnt3_any⟩
 | 3, _ => exact ⟨_, rfl, rfl, enters_of Tryz.func222 (by kernel_rfl) rfl, cnt4_any⟩
 | 4, _ => exact ⟨_, rfl, rfl, enters_of Tryz.func223 (by kernel_rfl) rfl, cnt5_any⟩
theorem buildCnt (k : Int) (f : FuncId) (w : World) : (Instr.build 222 #[(0, .int .u8 k), (1, .func (.func f) #[] #[])]).run Tryz.prog w = .ok (.agg #[.int .u8 k, .func (.func f) #[] #[]]) w := by kernel_rfl
set_option maxRecDepth 100000 in
set_option maxHeartbeats 2000000 in
theorem counts_any (w : World) : Calls Tryz.prog 137 #[] w (fun e w' => e = .returned (.slice (some ⟨w.heap.size, 0, none⟩) 5 5) ∧ w' = w.alloc (.cells cntC.toArray 222)) := by
 go_enter Tryz.func137, Tryz.ntmps137
 go_wp2_with (first
  | (refine wpList_built (buildCnt _ _ _) (by rfl) ?_)
  | (refine wpList_lits cntSl [[.int .u8 1, .func (.func 219) #[] #[]], [.int .u8 2, .func (.func 220) #[] #[]], [.int .u8 3, .func (.func 221) #[] #[]], [.int .u8 4, .func (.func 222) #[] #[]], [.int .u8 5, .func (.func 223) #[] #[]]] rfl (by simp) (by simp) (by simp) (by rfl) ?_))
 go_ret
 exact ⟨rfl, rfl⟩
end Go.Proofs.YtihggkmjalofiaaGreatDoor

/- A patch is counted in a row of a census: walked. -/
namespace Go.Proofs.YtihggkmjalofiaaGreatDoor
open Go.RowKit

/-- .. while the operations are counted: the first i kinds whole, of the next one what the first operations have -/
def midN (l : List OpV) (i j m : Nat) : Nat := if m ≤ i then kindN m l else if m = i + 1 then kindN m (l.take j) else 0
def midR (r : RowR) (p : PatV) (i j : Nat) : RowR := ((p.1.1.val : Nat), r.2.1 + 1, r.2.2.1 + ((patBytes p).length : Nat), r.2.2.2.1 + (midN p.2.2 i j 1 : Nat), r.2.2.2.2.1 + (midN p.2.2 i j 2 : Nat), r.2.2.2.2.2.1 + (midN p.2.2 i j 3 : Nat), r.2.2.2.2.2.2.1 + (midN p.2.2 i j 4 : Nat), r.2.2.2.2.2.2.2.1 + (midN p.2.2 i j 5 : Nat), r.2.2.2.2.2.2.2.2)
def bigR : Int := 1000000000000
def RowOk (r : RowR) : Prop := (0 ≤ r.1 ∧ r.1 < 256) ∧ (0 ≤ r.2.1 ∧ r.2.1 ≤ bigR) ∧ (0 ≤ r.2.2.1 ∧ r.2.2.1 ≤ bigR) ∧ (0 ≤ r.2.2.2.1 ∧ r.2.2.2.1 ≤ bigR) ∧ (0 ≤ r.2.2.2.2.1 ∧ r.2.2.2.2.1 ≤ bigR) ∧ (0 ≤ r.2.2.2.2.2.1 ∧ r.2.2.2.2.2.1 ≤ bigR) ∧ (0 ≤ r.2.2.2.2.2.2.1 ∧ r.2.2.2.2.2.2.1 ≤ bigR) ∧ (0 ≤ r.2.2.2.2.2.2.2.1 ∧ r.2.2.2.2.2.2.2.1 ≤ bigR) ∧ (0 ≤ r.2.2.2.2.2.2.2.2 ∧ r.2.2.2.2.2.2.2.2 ≤ bigR)
theorem kindN_le (k : Nat) (l : List OpV) : kindN k l ≤ l.length := by unfold kindN; exact List.length_filter_le _ _
theorem midN_le (l : List OpV) (i j m : Nat) : midN l i j m ≤ l.length := by
 unfold midN
 split
 ·exact kindN_le _ _
 ·split
  ·refine Nat.le_trans (kindN_le _ _) ?_
   rw [List.length_take]
   omega
  ·exact Nat.zero_le _
theorem midN_zero (l : List OpV) (m : Nat) (hm : 1 ≤ m) : midN l 0 0 m = 0 := by
 unfold midN
 rw [if_neg (by omega)]
 split
 ·rfl
 ·rfl
theorem midN_end (l : List OpV) (m : Nat) (hm : m ≤ 5) (j : Nat) : midN l 5 j m = kindN m l := by unfold midN; rw [if_pos hm]
theorem midN_next (l : List OpV) (i m : Nat) {j : Nat} (hj : l.length ≤ j) : midN l i j m = midN l (i + 1) 0 m := by
 unfold midN
 by_cases h1 : m ≤ i
 ·rw [if_pos h1, if_pos (by omega)]
 ·rw [if_neg h1]
  by_cases h2 : m = i + 1
  ·rw [if_pos h2, if_pos (by omega), List.take_of_length_le hj]
  ·rw [if_neg h2, if_neg (by omega)]
   split <;> rfl
theorem kindN_snoc (k : Nat) {l : List OpV} {j : Nat} {o : OpV} (h : l[j]? = some o) : kindN k (l.take (j + 1)) = kindN k (l.take j) + (if o.1.val = k then 1 else 0) := by
 unfold kindN
 rw [List.take_add_one, h, Option.toList_some, List.filter_append, List.length_append]
 by_cases e : o.1.val = k
 ·rw [if_pos e, List.filter_cons_of_pos (by simpa using e)]; rfl
 ·rw [if_neg e, List.filter_cons_of_neg (by simpa using e)]; rfl
theorem midN_step (l : List OpV) (i m : Nat) {j : Nat} {o : OpV} (h : l[j]? = some o) : midN l i (j + 1) m = midN l i j m + (if m = i + 1 ∧ o.1.val = i + 1 then 1 else 0) := by
 unfold midN
 by_cases h1 : m ≤ i
 ·rw [if_pos h1, if_pos h1, if_neg (by omega)]; rfl
 ·rw [if_neg h1, if_neg h1]
  by_cases h2 : m = i + 1
  ·rw [if_pos h2, if_pos h2, kindN_snoc m h]
   by_cases h3 : o.1.val = i + 1
   ·rw [if_pos (by omega), if_pos ⟨h2, h3⟩]
   ·rw [if_neg (by omega), if_neg (by omega)]
  ·rw [if_neg h2, if_neg h2, if_neg (by omega)]
theorem midR_zero (r : RowR) (p : PatV) : midR r p 0 0 = (((p.1.1.val : Nat) : Int), r.2.1 + 1, r.2.2.1 + ((patBytes p).length : Nat), r.2.2.2) := by
 unfold midR
 simp only [midN_zero _ _ (Nat.le_refl 1), midN_zero _ 2 (by omega), midN_zero _ 3 (by omega), midN_zero _ 4 (by omega), midN_zero _ 5 (by omega)]
 simp
theorem midR_end (r : RowR) (p : PatV) (j : Nat) : midR r p 5 j = addR r p := by
 unfold midR addR
 rw [midN_end _ 1 (by omega), midN_end _ 2 (by omega), midN_end _ 3 (by omega), midN_end _ 4 (by omega), midN_end _ 5 (by omega)]
theorem midR_next (r : RowR) (p : PatV) (i : Nat) {j : Nat} (hj : p.2.2.length ≤ j) : midR r p i j = midR r p (i + 1) 0 := by
 unfold midR
 simp only [midN_next p.2.2 i _ hj]
theorem midR_no (r : RowR) (p : PatV) (i : Nat) {j : Nat} {o : OpV} (h : p.2.2[j]? = some o) (hk : o.1.val ≠ i + 1) : midR r p i (j + 1) = midR r p i j := by
 unfold midR
 simp only [midN_step p.2.2 i _ h]
 simp [hk]
/-- one more of the kind i + 1: the cell 3 + i of the row -/
theorem midR_yes (r : RowR) (p : PatV) {i : Nat} (hi : i < 5) {j : Nat} {o : OpV} (h : p.2.2[j]? = some o) (hk : o.1.val = i + 1) : ∃ z : Int, (encR (midR r p i j))[3 + i]? = some (.int .i64 z) ∧ encR (midR r p i (j + 1)) = (encR (midR r p i j)).set (3 + i) (.int .i64 (z + 1)) ∧ (RowOk r → p.2.2.length ≤ 200 → 0 ≤ z ∧ z ≤ bigR + 200) := by
 have hb := fun m => midN_le p.2.2 i j m
 match i, hi with
 | 0, _ => exact ⟨r.2.2.2.1 + (midN p.2.2 0 j 1 : Nat), rfl, by unfold midR; simp only [midN_step p.2.2 0 _ h]; simp [hk, encR]; omega, fun ok hl => by have := hb 1; have := ok.2.2.2.1; omega⟩
 | 1, _ => exact ⟨r.2.2.2.2.1 + (midN p.2.2 1 j 2 : Nat), rfl, by unfold midR; simp only [midN_step p.2.2 1 _ h]; simp [hk, encR]; omega, fun ok hl => by have := hb 2; have := ok.2.2.2.2.1; omega⟩
 | 2, _ => exact ⟨r.2.2.2.2.2.1 + (midN p.2.2 2 j 3 : Nat), rfl, by unfold midR; simp only [midN_step p.2.2 2 _ h]; simp [hk, encR]; omega, fun ok hl => by have := hb 3; have := ok.2.2.2.2.2.1; omega⟩
 | 3, _ => exact ⟨r.2.2.2.2.2.2.1 + (midN p.2.2 3 j 4 : Nat), rfl, by unfold midR; simp only [midN_step p.2.2 3 _ h]; simp [hk, encR]; omega, fun ok hl => by have := hb 4; have := ok.2.2.2.2.2.2.1; omega⟩
 | 4, _ => exact ⟨r.2.2.2.2.2.2.2.1 + (midN p.2.2 4 j 5 : Nat), rfl, by unfold midR; simp only [midN_step p.2.2 4 _ h]; simp [hk, encR]; omega, fun ok hl => by have := hb 5; have := ok.2.2.2.2.2.2.2.1; omega⟩
theorem underCnt : Tryz.prog.underlying 222 = some (.struct (Tryz.prog.fieldsOf 222)) := by kernel_rfl
theorem infoCnt : (Tryz.prog.info? 222).map (·.size) = some 2 := by kernel_rfl
theorem allocCnt (w : World) : (Instr.alloc 222 true (.tuple #[])).run Tryz.prog w = .ok (.pointer (some ⟨w.heap.size, 0, none⟩)) (w.alloc (.cells #[.int .u8 0, .nilFunc] 222)) := by kernel_rfl
set_option maxRecDepth 100000 in
set_option maxHeartbeats 8000000 in
theorem addRow_any (p : PatV) (hpb : patB p = true) (cs : List Value) (w : World) (b : Nat) (hp : PatIn w (fun q => q ≠ b) cs p) (t : TypeId) (L : List RowR) (k : Nat) (r : RowR) (hB : RowIn w b t L) (hk : L[k]? = some r) (ok : RowOk r) :
  Calls Tryz.prog 214 #[.pointer (some ⟨b, k * 9, none⟩), .agg cs.toArray] w (fun e w' => e = .returned (.tuple #[]) ∧ Kept (fun q => q = b) w w' ∧ RowIn w' b t (L.set k (addR r p))) := by
 obtain ⟨⟨Ap, cp, Ao, co, rfl, _, hpo, _, hin⟩, _, _⟩ := id hp
 obtain ⟨CS, hCS⟩ : ∃ cs, cs = patC p.1 Ap p.2.1.length cp Ao p.2.2.length co := ⟨_, rfl⟩
 have z0 : Hid (CS.toArray[0]? = some (.int .u8 ((p.1.1.val : Nat) : Int))) := by rw [Hid, hCS]; rfl
 have z3 : Hid (CS.toArray[3]? = some (.slice Ao p.2.2.length co)) := by rw [Hid, hCS]; rfl
 rw [← hCS] at hp ⊢
 clear hCS
 have hi4 : (Tryz.prog.info? 31).map (·.size) = some CS.toArray.size := by rw [List.size_toArray, hp.at_.len4]; exact infoPat
 have K1 : Hid (Blk (w.alloc (.cells CS.toArray 31)) w.heap.size 31 CS.toArray) := Blk.new _ _ _
 have B1 : Hid (Below w.heap.size w (w.alloc (.cells CS.toArray 31))) := below_new _ _
 have P0 := Lib.hid hp
 have O0 := Lib.hid hpo
 have I0 := Lib.hid hin
 have hbw : Hid (b < w.heap.size) := Blk.lt hB
 have T1 := Lib.hid (hB.ext B1.out)
 have hk := Lib.hid hk
 have ok := Lib.hid ok
 have hl200 : p.2.2.length ≤ 200 := (patB_parts hpb).2.2.1
 have hbl := Lib.hid (patBytes_len hpb)
 clear hp hpo hB hin
 go_enter Tryz.func214, Tryz.ntmps214
 go_upto_region 1 with fail
 generalize (w.alloc (.cells CS.toArray 31)) = w1 at *
 obtain ⟨gp, hgp⟩ : ∃ g, g = w.heap.size := ⟨_, rfl⟩
 rw [← hgp] at K1 ⊢
 have hne : Hid (gp ≠ b) := by have := hbw.out; rw [Hid]; omega
 replace hgp := Lib.hid hgp
 have KP := Lib.hid (Kept.of_below (F := fun q => q = b) B1.out)
 clear B1
 have hb1 : 0 ≤ r.2.1 ∧ r.2.1 ≤ 1000000000000 := ok.out.2.1
 have hb2 : 0 ≤ r.2.2.1 ∧ r.2.2.1 ≤ 1000000000000 := ok.out.2.2.1
 -- the author
 have yp : w1.cell? ⟨gp, 0, none⟩ = some (.int .u8 ((p.1.1.val : Nat) : Int)) := (K1.out.cell 0).trans z0.out
 have y0 : w1.cell? ⟨b, k * 9, none⟩ = some (.int .u8 r.1) := tab_cell T1.out hk.out (j := 0) (by omega)
 have f0 : w1.frozen? ⟨b, k * 9, none⟩ = false := Blk.fr T1.out _
 have T2 := Lib.hid (tab_set T1.out hk.out (j := 0) (by omega) (v := .int .u8 ((p.1.1.val : Nat) : Int)) (r' := (((p.1.1.val : Nat) : Int), r.2)) rfl)
 have K2 := Lib.hid (K1.out.far (p := ⟨b, k * 9 + 0, none⟩) hne.out (.int .u8 ((p.1.1.val : Nat) : Int)))
 have KP2 := Lib.hid (KP.out.setCell (p := ⟨b, k * 9 + 0, none⟩) (.inl rfl) (.int .u8 ((p.1.1.val : Nat) : Int)))
 rw [Nat.add_zero] at T2 K2 KP2
 go_upto_region 2 with fail
 clear yp y0 f0 T1 K1 KP
 generalize (w1.setCell ⟨b, k * 9, none⟩ (.int .u8 ((p.1.1.val : Nat) : Int))) = w2 at *
 -- the patches
 have hk2 := Lib.hid (get_setR hk.out (((p.1.1.val : Nat) : Int), r.2))
 have y1 : w2.cell? ⟨b, k * 9 + 1, none⟩ = some (.int .i64 r.2.1) := tab_cell T2.out hk2.out (j := 1) (by omega)
 have f1 : w2.frozen? ⟨b, k * 9 + 1, none⟩ = false := Blk.fr T2.out _
 have x1 : IntKind.i64.wrap (r.2.1 + 1) = r.2.1 + 1 := IntWalk.i64_in _ (by omega)
 have T3 := Lib.hid (tab_set T2.out hk2.out (j := 1) (by omega) (v := .int .i64 (r.2.1 + 1)) (r' := (((p.1.1.val : Nat) : Int), r.2.1 + 1, r.2.2)) rfl)
 have K3 := Lib.hid (K2.out.far (p := ⟨b, k * 9 + 1, none⟩) hne.out (.int .i64 (r.2.1 + 1)))
 have KP3 := Lib.hid (KP2.out.setCell (p := ⟨b, k * 9 + 1, none⟩) (.inl rfl) (.int .i64 (r.2.1 + 1)))
 rw [set_setR] at T3
 go_upto_region 3 with fail
 clear y1 f1 x1 T2 K2 KP2 hk2
 generalize (w2.setCell ⟨b, k * 9 + 1, none⟩ (.int .i64 (r.2.1 + 1))) = w3 at *
 -- the bytes
 have HE := Lib.hid (encode19_any p w3 CS (P0.out.stay (KP3.out.stay fun k _ e1 e2 => e1 e2)).at_)
 go_wp2_with (refine wpList_load_row rfl 31 _ (by rfl) gp (by rfl) _ _ _ _ K3.out underPat rfl hi4 ?_)
 refine HE.out.mono ?_
 rintro e w4 ⟨h4, -⟩
 obtain ⟨v, rfl, own, b4⟩ := h4 hpb
 obtain ⟨nb, hnb⟩ : ∃ n, n = (patBytes p).length := ⟨_, rfl⟩
 rw [← hnb] at own hbl
 replace hnb := Lib.hid hnb
 obtain ⟨Ab, cb, rfl, _, _⟩ := Sl.of_own own
 have T4 := Lib.hid (T3.out.ext b4)
 have K4 := Lib.hid (K3.out.ext b4)
 have KP4 := Lib.hid (KP3.out.then b4)
 have hnb2 : nb ≤ 20000 := hbl.out
 clear h4 own b4 HE T3 K3 KP3 hbl
 have hk4 := Lib.hid (get_setR hk.out (((p.1.1.val : Nat) : Int), r.2.1 + 1, r.2.2))
 have y2 : w4.cell? ⟨b, k * 9 + 2, none⟩ = some (.int .i64 r.2.2.1) := tab_cell T4.out hk4.out (j := 2) (by omega)
 have f2 : w4.frozen? ⟨b, k * 9 + 2, none⟩ = false := Blk.fr T4.out _
 have x2 : IntKind.i64.wrap (r.2.2.1 + (nb : Int)) = r.2.2.1 + (nb : Int) := IntWalk.i64_in _ (by omega)
 have T5 := Lib.hid (tab_set T4.out hk4.out (j := 2) (by omega) (v := .int .i64 (r.2.2.1 + (nb : Int))) (r' := (((p.1.1.val : Nat) : Int), r.2.1 + 1, r.2.2.1 + (nb : Int), r.2.2.2)) rfl)
 have K5 := Lib.hid (K4.out.far (p := ⟨b, k * 9 + 2, none⟩) hne.out (.int .i64 (r.2.2.1 + (nb : Int))))
 have KP5 := Lib.hid (KP4.out.setCell (p := ⟨b, k * 9 + 2, none⟩) (.inl rfl) (.int .i64 (r.2.2.1 + (nb : Int))))
 rw [set_setR] at T5
 go_upto_region 5 with fail
 clear y2 f2 x2 T4 K4 KP4 hk4
 generalize (w4.setCell ⟨b, k * 9 + 2, none⟩ (.int .i64 (r.2.2.1 + (nb : Int)))) = w5 at *
 have e0 : (((p.1.1.val : Nat) : Int), r.2.1 + 1, r.2.2.1 + (nb : Int), r.2.2.2) = midR r p 0 0 := by rw [midR_zero, hnb.out]
 rw [e0] at T5
 clear e0 hb1 hb2 hnb hnb2
 obtain ⟨nl, hnl⟩ : ∃ n, n = p.2.2.length := ⟨_, rfl⟩
 rw [← hnl] at z3 O0 I0 hl200
 replace hnl := Lib.hid hnl
 -- the kinds
 go_wp2_with fail
 refine (counts_any w5).mono ?_
 rintro e _ ⟨rfl, rfl⟩
 have KC : Hid (Blk (w5.alloc (.cells cntC.toArray 222)) w5.heap.size 222 cntC.toArray) := Blk.new _ _ _
 have BC : Hid (Below w5.heap.size w5 (w5.alloc (.cells cntC.toArray 222))) := below_new _ _
 have T6 := Lib.hid (T5.out.ext BC.out)
 have K6 := Lib.hid (K5.out.ext BC.out)
 have KP6 := Lib.hid (KP5.out.then BC.out)
 generalize (w5.alloc (.cells cntC.toArray 222)) = w6 at *
 obtain ⟨gc, hgc⟩ : ∃ g, g = w5.heap.size := ⟨_, rfl⟩
 have hcb : Hid (gc ≠ b) := by have := Blk.lt T5.out; rw [Hid, hgc]; omega
 rw [← hgc] at KC ⊢
 clear BC T5 K5 KP5 hgc
 go_wp2_with fail
 go_loopw [39] (fun iv wr => ∃ i : Nat, i ≤ 5 ∧ iv = .int .i64 ((i : Nat) : Int) ∧ Hid (RowIn wr b t (L.set k (midR r p i 0))) ∧ Hid (Blk wr gp 31 CS.toArray) ∧ Hid (Blk wr gc 222 cntC.toArray) ∧ Hid (Kept (fun q => q = b) w wr)) (fun iv _ => 5 - (intOf iv).toNat)
 case atStart => exact ⟨0, by omega, rfl, T6.out, K6.out, KC.out, KP6.out⟩
 case round =>
  clear T6 K6 KC KP6
  obtain ⟨i, hi, rfl, T, K, KC, KP⟩ := hrel
  by_cases hlt : i < 5
  ·have hlk : (i : Int) < 5 := by omega
   have hi0 : (0 : Int) ≤ (i : Int) := by omega
   obtain ⟨f, q1, q2, hen, hcall⟩ := cnt_one hlt
   have RC : Hid (wr.rangeAt gc (i * 2) [.int .u8 ((i : Int) + 1), .func (.func f) #[] #[]]) := fun j v hj => by
    match j, hj with
    | 0, hj => rw [KC.out.cell, List.getElem?_toArray, Nat.add_zero, q1]; exact hj
    | 1, hj => rw [KC.out.cell, List.getElem?_toArray, q2]; exact hj
   have hen := Lib.hid hen
   have hcall := Lib.hid hcall
   clear q1 q2
   have KZ : Hid (Blk (wr.alloc (.cells #[.int .u8 0, .nilFunc] 222)) wr.heap.size 222 #[.int .u8 0, .nilFunc]) := Blk.new _ _ _
   have KN : Hid (Blk ((wr.alloc (.cells #[.int .u8 0, .nilFunc] 222)).setRow wr.heap.size #[.int .u8 ((i : Int) + 1), .func (.func f) #[] #[]]) wr.heap.size 222 #[.int .u8 ((i : Int) + 1), .func (.func f) #[] #[]]) := KZ.out.row _
   have BN : Hid (Below wr.heap.size wr ((wr.alloc (.cells #[.int .u8 0, .nilFunc] 222)).setRow wr.heap.size #[.int .u8 ((i : Int) + 1), .func (.func f) #[] #[]])) := below_setRow (below_new wr _) (Nat.le_refl _) _
   go_upto_region 8 with (first
    | (refine wpList_load_mid rfl 222 _ (by rfl) gc (i * 2) (by rfl) _ _ RC.out underCnt rfl infoCnt ?_)
    | (refine wpList_alloced (allocCnt _) ?_)
    | (refine wpList_store_row rfl 222 _ _ (by rfl) wr.heap.size #[.int .u8 ((i : Int) + 1), .func (.func f) #[] #[]] (by rfl) (by rfl) _ _ KZ.out infoCnt rfl (by simp [Value.oneCell']) ?_))
   have T7 := Lib.hid (T.out.ext BN.out)
   have K7 := Lib.hid (K.out.ext BN.out)
   have KC7 := Lib.hid (KC.out.ext BN.out)
   have KP7 := Lib.hid (KP.out.then BN.out)
   generalize ((wr.alloc (.cells #[.int .u8 0, .nilFunc] 222)).setRow wr.heap.size #[.int .u8 ((i : Int) + 1), .func (.func f) #[] #[]]) = w7 at *
   obtain ⟨gn, hgn⟩ : ∃ g, g = wr.heap.size := ⟨_, rfl⟩
   have hnb : Hid (gn ≠ b) := by have := Blk.lt T.out; rw [Hid, hgn]; omega
   rw [← hgn] at KN ⊢
   clear BN KZ RC T K KC KP hgn
   have y3 : w7.cell? ⟨gp, 3, none⟩ = some (.slice Ao nl co) := (K7.out.cell 3).trans z3.out
   go_wp2_with fail
   clear y3
   go_loopw [46] (fun jv ws => ∃ j : Nat, j ≤ nl ∧ jv = .int .i64 ((j : Nat) : Int) ∧ Hid (RowIn ws b t (L.set k (midR r p i j))) ∧ Hid (Blk ws gp 31 CS.toArray) ∧ Hid (Blk ws gc 222 cntC.toArray) ∧ Hid (Blk ws gn 222 #[.int .u8 ((i : Int) + 1), .func (.func f) #[] #[]]) ∧ Hid (Kept (fun q => q = b) w ws)) (fun jv _ => nl - (intOf jv).toNat)
   case atStart => exact ⟨0, Nat.zero_le _, rfl, T7.out, K7.out, KC7.out, KN.out, KP7.out⟩
   case round =>
    clear T7 K7 KC7 KN KP7
    obtain ⟨j, hj, rfl, T, K, KC, KN, KP⟩ := hrel
    have hj0 : (0 : Int) ≤ (j : Int) := by omega
    by_cases hjt : j < nl
    ·have hjk : (j : Int) < (nl : Int) := by omega
     have OW := Lib.hid (O0.out.stay I0.out (KP.out.stay fun k _ e1 e2 => e1 e2))
     obtain ⟨bo, oo, x, rfl, hbo, hx, hr, -⟩ := OW.out.at_ hjt
     have RX := Lib.hid hr
     have KZ : Hid (Blk (wr.alloc (.cells #[.int .u8 0, .int .u8 0, .int .u16 0, .int .u8 0, .int .u8 0, .int .u16 0, .int .u8 0, .string ByteArray.empty] 122)) wr.heap.size 122 #[.int .u8 0, .int .u8 0, .int .u16 0, .int .u8 0, .int .u8 0, .int .u16 0, .int .u8 0, .string ByteArray.empty]) := Blk.new _ _ _
     have KO : Hid (Blk ((wr.alloc (.cells #[.int .u8 0, .int .u8 0, .int .u16 0, .int .u8 0, .int .u8 0, .int .u16 0, .int .u8 0, .string ByteArray.empty] 122)).setRow wr.heap.size (encO x).toArray) wr.heap.size 122 (encO x).toArray) := KZ.out.row _
     have BN : Hid (Below wr.heap.size wr ((wr.alloc (.cells #[.int .u8 0, .int .u8 0, .int .u16 0, .int .u8 0, .int .u8 0, .int .u16 0, .int .u8 0, .string ByteArray.empty] 122)).setRow wr.heap.size (encO x).toArray)) := below_setRow (below_new wr _) (Nat.le_refl _) _
     go_upto_region 11 with (first
      | (refine wpList_load_mid rfl 122 _ (by rfl) bo (oo + j * 8) (by rfl) _ _ RX.out underOp rfl infoOp ?_)
      | (refine wpList_alloced (allocOp _) ?_)
      | (refine wpList_store_row rfl 122 _ _ (by rfl) wr.heap.size (encO x).toArray (by rfl) (by rfl) _ _ KZ.out infoOp rfl (all_oneCell_toArray (encO_one x)) ?_))
     have T8 := Lib.hid (T.out.ext BN.out)
     have K8 := Lib.hid (K.out.ext BN.out)
     have KC8 := Lib.hid (KC.out.ext BN.out)
     have KN8 := Lib.hid (KN.out.ext BN.out)
     have KP8 := Lib.hid (KP.out.then BN.out)
     generalize ((wr.alloc (.cells #[.int .u8 0, .int .u8 0, .int .u16 0, .int .u8 0, .int .u8 0, .int .u16 0, .int .u8 0, .string ByteArray.empty] 122)).setRow wr.heap.size (encO x).toArray) = w8 at *
     generalize wr.heap.size = go at *
     clear BN KZ RX OW T K KC KN KP hr hbo
     have y9 : w8.cell? ⟨go, 0, none⟩ = some (.int .u8 ((x.1.val : Nat) : Int)) := KO.out.cell 0
     have y7 : w8.cell? ⟨gn, 0, none⟩ = some (.int .u8 ((i : Int) + 1)) := KN8.out.cell 0
     have hx' : p.2.2[j]? = some x := hx
     by_cases hk1 : x.1.val = i + 1
     ·obtain ⟨z, hz1, hz2, hz3⟩ := midR_yes r p hlt hx' hk1
      have hzb := hz3 ok.out (by have := hnl.out; omega)
      unfold bigR at hzb
      have hk8 := get_setR hk.out (midR r p i j)
      have yz : w8.cell? ⟨b, k * 9 + (3 + i), none⟩ = some (.int .i64 z) := (tab_cell T8.out hk8 (j := 3 + i) (by omega)).trans hz1
      have fz : w8.frozen? ⟨b, k * 9 + (3 + i), none⟩ = false := Blk.fr T8.out _
      have xz : IntKind.i64.wrap (z + 1) = z + 1 := IntWalk.i64_in _ (by omega)
      have T9 := Lib.hid (tab_set T8.out hk8 (j := 3 + i) (by omega) hz2)
      have K9 := Lib.hid (K8.out.far (p := ⟨b, k * 9 + (3 + i), none⟩) hne.out (.int .i64 (z + 1)))
      have KC9 := Lib.hid (KC8.out.far (p := ⟨b, k * 9 + (3 + i), none⟩) hcb.out (.int .i64 (z + 1)))
      have KN9 := Lib.hid (KN8.out.far (p := ⟨b, k * 9 + (3 + i), none⟩) hnb.out (.int .i64 (z + 1)))
      have KP9 := Lib.hid (KP8.out.setCell (p := ⟨b, k * 9 + (3 + i), none⟩) (.inl rfl) (.int .i64 (z + 1)))
      rw [set_setR] at T9
      have y8 : w8.cell? ⟨gn, 1, none⟩ = some (.func (.func f) #[] #[]) := KN8.out.cell 1
      have e9 : ((x.1.val : Nat) : Int) = (i : Int) + 1 := by omega
      rw [e9] at y9
      clear e9
      clear hz1 hz2 hz3 hk8 T8 K8 KC8 KN8 KP8 KO hx hx' hk1
      have hcl : Hid (Calls Tryz.prog f (#[.pointer (some ⟨b, k * 9, none⟩)] ++ #[]) w8 (Ret w8 (.pointer (some ⟨b, k * 9 + (3 + i), none⟩)))) := by rw [Array.append_empty]; exact hcall.out b (k * 9) w8
      go_wp2_with ((with_reducible refine wpList_calledV (f := f) (caps := #[]) (yv := .pointer (some ⟨b, k * 9, none⟩)) (R := Ret w8 (.pointer (some ⟨b, k * 9 + (3 + i), none⟩))) hen.out ?_ ?_ hcl.out ?_); rfl; rfl; rintro _ _ ⟨rfl, rfl⟩; refine ⟨_, rfl, ?_⟩)
      go_roundw
      case rel => exact ⟨j + 1, by omega, by go_num, T9.out, K9.out, KC9.out, KN9.out, KP9.out⟩
      case measure => simp [intOf]; omega
     ·have d1 : (((x.1.val : Nat) : Int) == (i : Int) + 1) = false := beq_eq_false_iff_ne.2 (by omega)
      have e1 := Lib.hid (midR_no r p i hx' hk1)
      clear KO hx hx' hk1
      go_wp2_with fail
      go_roundw
      case rel => exact ⟨j + 1, by omega, by go_num, by rw [e1.out]; exact T8.out, K8.out, KC8.out, KN8.out, KP8.out⟩
      case measure => simp [intOf]; omega
    ·have hjk : ¬ (j : Int) < (nl : Int) := by omega
     have e1 := Lib.hid (midR_next r p i (j := j) (by have := hnl.out; omega))
     rw [e1.out] at T
     clear e1 KN
     go_wp2_with fail
     go_roundw
     case rel => exact ⟨i + 1, by omega, by go_num, T.out, K.out, KC.out, KP.out⟩
     case measure => simp [intOf]; omega
  ·have hlk : ¬ (i : Int) < 5 := by omega
   obtain rfl : i = 5 := by omega
   rw [midR_end] at T
   go_wp2_with fail
   go_end0
   exact ⟨rfl, KP.out, T.out⟩
end Go.Proofs.YtihggkmjalofiaaGreatDoor

/- Rows without patches are left out: slices.IndexFunc and slices.DeleteFunc at rows: walked. -/
namespace Go.Proofs.YtihggkmjalofiaaGreatDoor
open Go.RowKit

theorem underRow : Tryz.prog.underlying 107 = some (.struct (Tryz.prog.fieldsOf 107)) := by kernel_rfl
theorem infoRow : (Tryz.prog.info? 107).map (·.size) = some 9 := by kernel_rfl
theorem allocRow (w : World) : (Instr.alloc 107 true (.tuple #[])).run Tryz.prog w = .ok (.pointer (some ⟨w.heap.size, 0, none⟩)) (w.alloc (.cells (encR zeroR).toArray 107)) := by kernel_rfl
theorem zeroRow (w : World) : (zeroValue 107).run Tryz.prog w = .ok (.agg (encR zeroR).toArray) w := by kernel_rfl
section
variable {w : World} {b : Nat} {t : TypeId} {L : List RowR} {k : Nat} {r : RowR}
theorem tab_range (h : RowIn w b t L) (hk : L[k]? = some r) : w.rangeAt b (k * 9) (encR r) := fun j v hj => by
 have hl := (List.getElem?_eq_some_iff.1 hj).1
 rw [encR_len] at hl
 rw [tab_cell h hk hl]
 exact hj
theorem tab_there (h : RowIn w b t L) {o m : Nat} (hl : o + m ≤ L.length * 9) : w.there b o m := fun j hj => by
 refine ⟨?_, Blk.fr h _⟩
 rw [Blk.cell h, List.getElem?_toArray, List.getElem?_eq_getElem (by rw [flatMap_len encR L (fun x _ => encR_len x)]; omega)]
 rfl
end
theorem blk_setCells {w : World} {g : Nat} {t : TypeId} {X : List Value} (h : Blk w g t X.toArray) (vs : List Value) {o : Nat} (hl : o + vs.length ≤ X.length) : Blk (w.setCells g o vs) g t (X.take o ++ vs ++ X.drop (o + vs.length)).toArray := by
 obtain ⟨cs', h1, h2, h3⟩ := Blk.setCells vs o w X.toArray h
 have e : cs' = (X.take o ++ vs ++ X.drop (o + vs.length)).toArray := by
  apply Array.ext_getElem?
  intro j
  refine Eq.trans ?_ (List.getElem?_toArray ..).symm
  by_cases hj : j < X.length
  ·rw [h3 j (by simpa using hj)]
   by_cases h4 : o ≤ j ∧ j < o + vs.length
   ·rw [if_pos h4, List.append_assoc, List.getElem?_append_right (by rw [List.length_take]; omega), List.length_take, Nat.min_eq_left (by omega), List.getElem?_append_left (by omega)]
   ·rw [if_neg h4, List.getElem?_toArray, List.append_assoc]
    by_cases h5 : j < o
    ·rw [List.getElem?_append_left (by rw [List.length_take]; omega), List.getElem?_take, if_pos h5]
    ·rw [List.getElem?_append_right (by rw [List.length_take]; omega), List.length_take, Nat.min_eq_left (by omega), List.getElem?_append_right (by omega), List.getElem?_drop]
     congr 1
     omega
  ·rw [Array.getElem?_eq_none (by rw [h2]; simpa using hj), List.getElem?_eq_none (by simp; omega)]
 rw [← e]
 exact h1
theorem tab_row {w : World} {b : Nat} {t : TypeId} {L : List RowR} {k : Nat} (h : RowIn w b t L) (hk : k < L.length) (x : RowR) : RowIn (w.setCells b (k * 9) (encR x)) b t (L.set k x) := by
 have h1 := blk_setCells h (encR x) (o := k * 9) (by rw [encR_len, flatMap_len encR L (fun x _ => encR_len x)]; omega)
 rw [encR_len, set_flat encR_len L hk x] at h1
 exact h1
theorem kept_setCells (b : Nat) (w : World) (o : Nat) (vs : List Value) : Kept (fun q => q = b) w (w.setCells b o vs) := Kept.setCells (F := fun q => q = b) (.inl rfl) vs o w (Kept.refl _ _)
theorem none54_any (r : RowR) (w : World) : Calls Tryz.prog 216 #[.agg (encR r).toArray] w (RetB w (.bool (!hasR r))) := by
 have K0 : Hid (Blk (w.alloc (.cells (encR r).toArray 107)) w.heap.size 107 (encR r).toArray) := Blk.new _ _ _
 have B0 : Hid (Below w.heap.size w (w.alloc (.cells (encR r).toArray 107))) := below_new _ _
 have y1 : (w.alloc (.cells (encR r).toArray 107)).cell? ⟨w.heap.size, 1, none⟩ = some (.int .i64 r.2.1) := K0.out.cell 1
 have e : Hid ((!hasR r) = (r.2.1 == 0)) := by
  unfold hasR
  by_cases h : r.2.1 = 0
  ·rw [Hid, decide_eq_true h, beq_iff_eq.2 h]; rfl
  ·rw [Hid, decide_eq_false h, beq_eq_false_iff_ne.2 h]; rfl
 rw [e.out]
 go_enter Tryz.func216, Tryz.ntmps216
 go_upto_region 1 with fail
 generalize (w.alloc (.cells (encR r).toArray 107)) = w1 at *
 go_wp2
 go_ret
 exact ⟨rfl, B0.out⟩
def firstR (L : List RowR) : Nat := (L.takeWhile hasR).length
theorem firstR_le (L : List RowR) : firstR L ≤ L.length := by unfold firstR; exact (List.takeWhile_prefix _).length_le
theorem firstR_step : ∀ (L : List RowR) (k : Nat) (x : RowR), k ≤ firstR L → L[k]? = some x → hasR x = true → k + 1 ≤ firstR L
 | [], k, x, _, h, _ => by simp at h
 | y :: L, 0, x, _, h, hx => by
  obtain rfl : y = x := by simpa using h
  unfold firstR
  rw [List.takeWhile_cons_of_pos hx, List.length_cons]
  omega
 | y :: L, k + 1, x, hk, h, hx => by
  unfold firstR at hk ⊢
  by_cases hy : hasR y = true
  ·rw [List.takeWhile_cons_of_pos hy, List.length_cons] at hk ⊢
   have := firstR_step L k x (by unfold firstR; omega) (by simpa using h) hx
   unfold firstR at this
   omega
  ·rw [List.takeWhile_cons_of_neg hy] at hk
   simp at hk
theorem firstR_stop : ∀ (L : List RowR) (k : Nat) (x : RowR), k ≤ firstR L → L[k]? = some x → hasR x = false → firstR L = k
 | [], k, x, _, h, _ => by simp at h
 | y :: L, 0, x, _, h, hx => by
  obtain rfl : y = x := by simpa using h
  unfold firstR
  rw [List.takeWhile_cons_of_neg (by rw [hx]; simp)]
  rfl
 | y :: L, k + 1, x, hk, h, hx => by
  unfold firstR at hk ⊢
  by_cases hy : hasR y = true
  ·rw [List.takeWhile_cons_of_pos hy, List.length_cons] at hk ⊢
   have := firstR_stop L k x (by unfold firstR; omega) (by simpa using h) hx
   unfold firstR at this
   omega
  ·rw [List.takeWhile_cons_of_neg hy] at hk
   simp at hk
theorem firstR_take : ∀ L : List RowR, (L.take (firstR L)).filter hasR = L.take (firstR L)
 | [] => rfl
 | y :: L => by
  have h := firstR_take L
  unfold firstR at h ⊢
  by_cases hy : hasR y = true
  ·rw [List.takeWhile_cons_of_pos hy, List.length_cons, List.take_succ_cons, List.filter_cons_of_pos hy, h]
  ·rw [List.takeWhile_cons_of_neg hy]
   rfl
def idxR (L : List RowR) : Int := if firstR L < L.length then ((firstR L : Nat) : Int) else -1
set_option maxRecDepth 100000 in
set_option maxHeartbeats 4000000 in
theorem idx54_any {w : World} {b : Nat} {t : TypeId} {L : List RowR} (h : RowIn w b t L) (n : Nat) (hn : L.length = n) (hm : n ≤ 1000) (c : Nat) :
  Calls Tryz.prog 289 #[.slice (some ⟨b, 0, none⟩) n c, .func (.func 216) #[] #[]] w (RetB w (.int .i64 (idxR L))) := by
 have H := Lib.hid h
 have HN := Lib.hid hn
 clear h hn
 go_enter Tryz.func289, Tryz.ntmps289
 go_wp2_with fail
 go_loopw [8] (fun iv wr => ∃ k : Nat, k ≤ n ∧ iv = .int .i64 ((k : Nat) : Int) ∧ Hid (k ≤ firstR L) ∧ Hid (Below w.heap.size w wr)) (fun iv _ => n - (intOf iv).toNat)
 case atStart => exact ⟨0, Nat.zero_le _, rfl, Nat.zero_le _, Below.refl _ _⟩
 case round =>
  obtain ⟨k, hk, rfl, F, B⟩ := hrel
  have hk0 : (0 : Int) ≤ (k : Int) := by omega
  by_cases hlt : k < n
  ·have hlk : (k : Int) < (n : Int) := by omega
   obtain ⟨x, hx⟩ : ∃ x, L[k]? = some x := ⟨_, List.getElem?_eq_getElem (by rw [HN.out]; exact hlt)⟩
   have R := Lib.hid (tab_range (H.out.ext B.out) hx)
   have HC := Lib.hid (none54_any x wr)
   cases hb : hasR x
   ·have N := Lib.hid (firstR_stop L k x F.out hx hb)
    rw [hb] at HC
    clear hx hb F
    go_wp2_with (refine wpList_load_mid rfl 107 _ (by rfl) b (k * 9) (by rfl) _ _ R.out underRow rfl infoRow ?_)
    refine HC.out.mono ?_
    rintro e w4 ⟨rfl, b4⟩
    have B4 := Lib.hid (B.out.trans (b4.mono B.out.size))
    clear b4
    go_wp2_with fail
    go_ret
    refine ⟨?_, B4.out⟩
    unfold idxR
    rw [N.out, if_pos (by rw [HN.out]; exact hlt)]
    rfl
   ·have N := Lib.hid (firstR_step L k x F.out hx hb)
    rw [hb] at HC
    clear hx hb F
    go_wp2_with (refine wpList_load_mid rfl 107 _ (by rfl) b (k * 9) (by rfl) _ _ R.out underRow rfl infoRow ?_)
    refine HC.out.mono ?_
    rintro e w4 ⟨rfl, b4⟩
    have B4 := Lib.hid (B.out.trans (b4.mono B.out.size))
    clear b4 B
    go_wp2_with fail
    go_roundw
    case rel => exact ⟨k + 1, by omega, by go_num, N.out, B4.out⟩
    case measure => simp [intOf]; omega
  ·have hlk : ¬ (k : Int) < (n : Int) := by omega
   have hkn : k = n := by omega
   go_wp2
   go_ret
   refine ⟨?_, B.out⟩
   unfold idxR
   rw [if_neg (by have := F.out; rw [HN.out]; omega)]
   rfl
end Go.Proofs.YtihggkmjalofiaaGreatDoor

/- Rows without patches are left out: slices.DeleteFunc at rows: walked. -/
namespace Go.Proofs.YtihggkmjalofiaaGreatDoor
open Go.RowKit

theorem sl_pre {w : World} {b : Nat} {t : TypeId} {Y : List Value} (h : Blk w b t Y.toArray) {M : List RowR} {Z : List Value} (e : Y = M.flatMap encR ++ Z) : Sl w w.heap.size 9 (some ⟨b, 0, none⟩) M.length (M.flatMap encR) := by
 have hl := flatMap_len encR M (fun x _ => encR_len x)
 refine ⟨hl, fun _ => ⟨b, 0, rfl, h.lt, fun j hj => ?_⟩⟩
 rw [h.cell, List.getElem?_toArray, e, Nat.zero_add, List.getElem?_append_left (by rw [hl]; exact hj)]
set_option maxRecDepth 100000 in
set_option maxHeartbeats 8000000 in
/-- what is left stands first; what is behind is cleared -/
theorem delete54_any {w : World} {b : Nat} {t : TypeId} {L : List RowR} (h : RowIn w b t L) (n : Nat) (hn : L.length = n) (hm : n ≤ 1000) :
  Calls Tryz.prog 215 #[.slice (some ⟨b, 0, none⟩) n n, .func (.func 216) #[] #[]] w (fun e w' => e = .returned (.slice (some ⟨b, 0, none⟩) (L.filter hasR).length n) ∧ Kept (fun q => q = b) w w' ∧ Sl w' w'.heap.size 9 (some ⟨b, 0, none⟩) (L.filter hasR).length ((L.filter hasR).flatMap encR)) := by
 have H := Lib.hid h
 have HN := Lib.hid hn
 have HI := Lib.hid (idx54_any h n hn hm n)
 clear h hn
 go_enter Tryz.func215, Tryz.ntmps215
 obtain ⟨z, hz⟩ : ∃ z, z = idxR L := ⟨_, rfl⟩
 rw [← hz] at HI
 by_cases hi : firstR L < n
 ·have hz2 : z = ((firstR L : Nat) : Int) := by rw [hz]; unfold idxR; rw [if_pos (by rw [HN.out]; exact hi)]
  subst hz2
  obtain ⟨i0, hi0⟩ : ∃ i, i = firstR L := ⟨_, rfl⟩
  rw [← hi0] at HI hi
  have F0 : Hid (L.take i0 = (L.take (i0 + 1)).filter hasR) := by
   have h1 := firstR_take L
   rw [← hi0] at h1
   obtain ⟨x, hx⟩ : ∃ x, L[i0]? = some x := ⟨_, List.getElem?_eq_getElem (by rw [HN.out]; exact hi)⟩
   have hb : hasR x = false := by
    cases hb : hasR x
    ·rfl
    ·have := firstR_step L i0 x (by omega) hx hb
     omega
   rw [Hid, List.take_add_one, hx, Option.toList_some, List.filter_append, h1, List.filter_cons_of_neg (by rw [hb]; simp)]
   simp
  clear hz hi0
  have hm1 : ((i0 : Int) == -1) = false := beq_eq_false_iff_ne.2 (by omega)
  go_wp2_with fail
  refine HI.out.mono ?_
  rintro e w3 ⟨rfl, b3⟩
  have T3 := Lib.hid (H.out.ext b3)
  have K3 := Lib.hid (Kept.of_below (F := fun q => q = b) b3)
  clear b3 HI
  go_wp2_with fail
  go_loopw [5, 6] (fun iv jv wr => ∃ (i j : Nat) (X : List RowR), i < j ∧ j ≤ n ∧ iv = .int .i64 ((i : Nat) : Int) ∧ jv = .int .i64 ((j : Nat) : Int) ∧ Hid (X.length = n) ∧ Hid (X.take i = (L.take j).filter hasR) ∧ Hid (X.drop j = L.drop j) ∧ Hid (RowIn wr b t X) ∧ Hid (Kept (fun q => q = b) w wr)) (fun _ jv _ => n - (intOf jv).toNat)
  case atStart => exact ⟨i0, i0 + 1, L, by omega, by omega, rfl, by go_num, HN.out, F0.out, rfl, T3.out, K3.out⟩
  case round =>
   clear T3 K3 F0
   obtain ⟨i, j, X, hij, hjn, rfl, rfl, HX, F, D, T, K⟩ := hrel
   have hj0 : (0 : Int) ≤ (j : Int) := by omega
   have hi0' : (0 : Int) ≤ (i : Int) := by omega
   by_cases hlt : j < n
   ·have hlk : (j : Int) < (n : Int) := by omega
    have hlk2 : (i : Int) < (n : Int) := by omega
    obtain ⟨x, hx⟩ : ∃ x, L[j]? = some x := ⟨_, List.getElem?_eq_getElem (by rw [HN.out]; exact hlt)⟩
    have hx2 : X[j]? = some x := by
     have h1 := congrArg (fun l => l[0]?) D.out
     simp only [List.getElem?_drop, Nat.add_zero] at h1
     rw [h1, hx]
    have hx := Lib.hid hx
    have D2 : Hid (X.drop (j + 1) = L.drop (j + 1)) := by
     have h1 := congrArg (List.drop 1) D.out
     rw [List.drop_drop, List.drop_drop] at h1
     exact h1
    have FS : Hid ((L.take (j + 1)).filter hasR = (L.take j).filter hasR ++ (if hasR x = true then [x] else [])) := by
     rw [Hid, List.take_add_one, hx.out, Option.toList_some, List.filter_append]
     congr 1
     by_cases hb : hasR x = true
     ·rw [if_pos hb, List.filter_cons_of_pos hb]; rfl
     ·rw [if_neg hb, List.filter_cons_of_neg hb]; rfl
    have R := Lib.hid (tab_range T.out hx2)
    have KZ : Hid (Blk (wr.alloc (.cells (encR zeroR).toArray 107)) wr.heap.size 107 (encR zeroR).toArray) := Blk.new _ _ _
    have KO : Hid (Blk ((wr.alloc (.cells (encR zeroR).toArray 107)).setRow wr.heap.size (encR x).toArray) wr.heap.size 107 (encR x).toArray) := KZ.out.row _
    have BN : Hid (Below wr.heap.size wr ((wr.alloc (.cells (encR zeroR).toArray 107)).setRow wr.heap.size (encR x).toArray)) := below_setRow (below_new wr _) (Nat.le_refl _) _
    clear hx2
    go_upto_region 8 with (first
     | (refine wpList_load_mid rfl 107 _ (by rfl) b (j * 9) (by rfl) _ _ R.out underRow rfl infoRow ?_)
     | (refine wpList_alloced (allocRow _) ?_)
     | (refine wpList_store_row rfl 107 _ _ (by rfl) wr.heap.size (encR x).toArray (by rfl) (by rfl) _ _ KZ.out infoRow rfl (all_oneCell_toArray (encR_one x)) ?_))
    have T4 := Lib.hid (T.out.ext BN.out)
    have K4 := Lib.hid (K.out.then BN.out)
    have hgb : Hid (wr.heap.size ≠ b) := by have := Blk.lt T.out; rw [Hid]; omega
    generalize ((wr.alloc (.cells (encR zeroR).toArray 107)).setRow wr.heap.size (encR x).toArray) = w4 at *
    generalize wr.heap.size = gn at *
    have HC := Lib.hid (none54_any x w4)
    clear KZ BN R T K
    cases hb : hasR x
    ·rw [hb] at HC
     rw [hb, if_neg (by simp), List.append_nil] at FS
     clear hb
     go_wp2_with (refine wpList_load_row rfl 107 _ (by rfl) gn (by rfl) _ _ _ _ KO.out underRow rfl infoRow ?_)
     refine HC.out.mono ?_
     rintro e w5 ⟨rfl, b5⟩
     have T5 := Lib.hid (T4.out.ext b5)
     have K5 := Lib.hid (K4.out.then b5)
     clear b5 HC KO T4 K4
     go_wp2_with fail
     go_roundw
     case rel => exact ⟨i, j + 1, X, by omega, by omega, rfl, by go_num, HX.out, by rw [Hid, FS.out]; exact F.out, D2.out, T5.out, K5.out⟩
     case measure => simp [intOf]; omega
    ·rw [hb] at HC
     rw [hb, if_pos rfl] at FS
     clear hb
     go_wp2_with (refine wpList_load_row rfl 107 _ (by rfl) gn (by rfl) _ _ _ _ KO.out underRow rfl infoRow ?_)
     refine HC.out.mono ?_
     rintro e w5 ⟨rfl, b5⟩
     have T5 := Lib.hid (T4.out.ext b5)
     have K5 := Lib.hid (K4.out.then b5)
     have KO5 := Lib.hid (KO.out.ext b5)
     have H5 : Hid (w5.there b (i * 9) (encR x).toArray.size) := tab_there T5.out (by have := HX.out; show i * 9 + 9 ≤ _; omega)
     have T6 := Lib.hid (tab_row T5.out (k := i) (by have := HX.out; omega) x)
     have K6 := Lib.hid (K5.out.trans (kept_setCells b w5 (i * 9) (encR x)) fun _ e => .inl e)
     have F6 : Hid ((X.set i x).take (i + 1) = (L.take (j + 1)).filter hasR) := by rw [Hid, FS.out, set_take x (by have := HX.out; omega), F.out]
     have D6 : Hid ((X.set i x).drop (j + 1) = L.drop (j + 1)) := by rw [Hid, List.drop_set_of_lt (by omega)]; exact D2.out
     clear b5 HC KO T4 K4
     go_upto_region 10 with (first | (refine wpList_load_row rfl 107 _ (by rfl) gn (by rfl) _ _ _ _ KO5.out underRow rfl infoRow ?_) | (refine wpList_store_mid rfl 107 _ _ rfl b (i * 9) (encR x).toArray (by rfl) (by rfl) H5.out infoRow (all_oneCell_toArray (encR_one x)) ?_))
     clear KO5 H5 T5 K5
     generalize (w5.setCells b (i * 9) (encR x)) = w6 at *
     go_wp2_with fail
     go_roundw
     case rel => exact ⟨i + 1, j + 1, X.set i x, by omega, by omega, by go_num, by go_num, by rw [Hid, List.length_set]; exact HX.out, F6.out, D6.out, T6.out, K6.out⟩
     case measure => simp [intOf]; omega
   ·have hlk : ¬ (j : Int) < (n : Int) := by omega
    have N : Hid (L.filter hasR = X.take i) := by rw [Hid, F.out, List.take_of_length_le (by rw [HN.out]; omega)]
    have NL : Hid ((L.filter hasR).length = i) := by have := HX.out; rw [Hid, N.out, List.length_take]; omega
    have HC := fun ty => (run_clear_rows (P := Tryz.prog) (size := 9) wr 104 107 ty _ Tryz.underlying104 zeroRow rfl (by omega) (fun v hv => encR_one zeroR v (by simpa [Value.cells] using hv)) b (i * 9) (n - i) (n - i) (by omega) (tab_there T.out (by have := HX.out; omega))).1
    have HLn := (run_clear_rows (P := Tryz.prog) (size := 9) wr 104 107 0 _ Tryz.underlying104 zeroRow rfl (by omega) (fun v hv => encR_one zeroR v (by simpa [Value.cells] using hv)) b (i * 9) (n - i) (n - i) (by omega) (tab_there T.out (by have := HX.out; omega))).2
    have hnc : ¬ n = i := by omega
    have hnc2 : (i : Int) ≤ (n : Int) := by omega
    generalize (Builtin.zeroCells (Value.agg (encR zeroR).toArray).cells (n - i)).toList = zs at *
    have KS := Lib.hid (K.out.trans (kept_setCells b wr (i * 9) zs) fun _ e => .inl e)
    have e1 := blk_setCells T.out zs (o := i * 9) (by rw [HLn, flatMap_len encR X (fun x _ => encR_len x), HX.out]; omega)
    have S1 := Lib.hid (sl_pre e1 (M := X.take i) (by rw [cut_flat encR_len X (by rw [HX.out]; omega), List.append_assoc]))
    rw [← N.out, NL.out] at S1
    have hi9 : (i : Int) ≤ (n : Int) := by omega
    clear e1 HLn T K D F
    go_wp2
    go_ret
    rw [NL.out]
    exact ⟨rfl, KS.out, S1.out⟩
 ·have hall : Hid (L.filter hasR = L) := by
   have h1 := firstR_take L
   have h2 := firstR_le L
   rw [List.take_of_length_le (by rw [HN.out]; omega)] at h1
   exact h1
  have hz2 : z = -1 := by rw [hz]; unfold idxR; rw [if_neg (by rw [HN.out]; exact hi)]
  subst hz2
  clear hz
  go_wp2_with fail
  refine HI.out.mono ?_
  rintro e w3 ⟨rfl, b3⟩
  have T3 := Lib.hid (H.out.ext b3)
  have K3 := Lib.hid (Kept.of_below (F := fun q => q = b) b3)
  clear b3 HI
  go_wp2_with fail
  go_ret
  rw [hall.out]
  exact ⟨by rw [HN.out]; rfl, K3.out, sl_pre T3.out (Z := []) (by rw [List.append_nil])⟩
end Go.Proofs.YtihggkmjalofiaaGreatDoor

/- The rows of patches: walked. -/
namespace Go.Proofs.YtihggkmjalofiaaGreatDoor
open Go.RowKit

theorem patB_author {p : PatV} (h : patB p = true) : 1 ≤ p.1.1.val ∧ p.1.1.val ≤ 64 := by
 rw [patB_head, Bool.and_eq_true] at h
 have h1 := h.1
 unfold headB pidOk at h1
 simp only [Bool.and_eq_true, decide_eq_true_eq] at h1
 omega
theorem GrOk.auth {L : List PatV} (h : GrOk L) {p : PatV} (hp : p ∈ L) : 1 ≤ p.1.1.val ∧ p.1.1.val ≤ 64 := patB_author (h.good p hp)
theorem GrOk.vauth {L : List PatV} (h : GrOk L) {x : VertV} (hx : x ∈ vertsL L) : x.1.1.1.val ≤ 64 := by
 have h1 := (h.verts x).1 hx
 unfold vertV at h1
 cases hr : rawV L x.1 with
 | none => rw [hr] at h1; cases h1
 | some r =>
  obtain ⟨p, hp, h2⟩ := rawV_mem hr
  have h3 := rawP_name h2
  have h4 := (h.auth hp).2
  rw [h3] at h4
  exact h4
theorem sum_le {l : List Nat} {b : Nat} (h : ∀ x ∈ l, x ≤ b) : l.sum ≤ l.length * b := by
 induction l with
 | nil => simp
 | cons a l ih =>
  have h1 := h a (List.mem_cons_self ..)
  have h2 := ih fun x hx => h x (List.mem_cons_of_mem _ hx)
  rw [List.sum_cons, List.length_cons, Nat.succ_mul]
  omega
theorem ofA_len (L : List PatV) (a : Nat) : (ofA L a).length ≤ L.length := List.length_filter_le _ _
theorem kindS_le {M : List PatV} (h : ∀ p ∈ M, patB p = true) (k : Nat) : kindS k M ≤ M.length * 200 := by
 unfold kindS
 refine Nat.le_trans (sum_le (b := 200) fun x hx => ?_) (by rw [List.length_map]; exact Nat.le_refl _)
 obtain ⟨p, hp, rfl⟩ := List.mem_map.1 hx
 exact Nat.le_trans (kindN_le _ _) (patB_parts (h p hp)).2.2.1
theorem bytesS_le {M : List PatV} (h : ∀ p ∈ M, patB p = true) : bytesS M ≤ M.length * 20000 := by
 unfold bytesS
 refine Nat.le_trans (sum_le (b := 20000) fun x hx => ?_) (by rw [List.length_map]; exact Nat.le_refl _)
 obtain ⟨p, hp, rfl⟩ := List.mem_map.1 hx
 exact patBytes_len (h p hp)
theorem rowT_ok {L : List PatV} (h : ∀ p ∈ L, patB p = true) (hl : L.length ≤ 20) {a : Nat} : RowOk (rowT L [] a) := by
 have hm : ∀ p ∈ ofA L a, patB p = true := fun p hp => h p (List.mem_filter.1 hp).1
 have h0 := ofA_len L a
 have h1 := bytesS_le hm
 have k1 := kindS_le hm 1
 have k2 := kindS_le hm 2
 have k3 := kindS_le hm 3
 have k4 := kindS_le hm 4
 have k5 := kindS_le hm 5
 have ha : authT (ofA L a) a < 256 := by
  unfold authT
  split
  ·omega
  ·rename_i hne
   obtain ⟨p, hp⟩ := List.exists_mem_of_length_pos (Nat.pos_of_ne_zero hne)
   have e := (List.mem_filter.1 hp).2
   have := (patB_author (hm p hp)).2
   rw [decide_eq_true_eq] at e
   omega
 unfold RowOk rowT rowM bigR
 have e : aliveA [] a = 0 := rfl
 simp only [e]
 omega
theorem aliveA_le (V : List VertV) (a : Nat) : aliveA V a ≤ V.length := List.length_filter_le _ _
theorem runG_few54 (l : List PatV) : (runG [] l).length ≤ l.length := by
 have h : ∀ (l : List PatV) (L : List PatV), (runG L l).length ≤ L.length + l.length := by
  intro l
  induction l with
  | nil => intro L; simp [runG]
  | cons p l ih =>
   intro L
   have h1 := ih (grL L p)
   have h2 : (grL L p).length ≤ L.length + 1 := by unfold grL; split <;> simp
   show (runG (grL L p) l).length ≤ _
   rw [List.length_cons]
   omega
 have := h l []
 simpa using this
theorem allocPat54 (w : World) : (Instr.alloc 31 true (.tuple #[])).run Tryz.prog w = .ok (.pointer (some ⟨w.heap.size, 0, none⟩)) (w.alloc (.cells #[.int .u8 0, .int .u16 0, .slice none 0 0, .slice none 0 0] 31)) := by kernel_rfl
theorem allocBy (w : World) : (Instr.alloc 308 true (.tuple #[])).run Tryz.prog w = .ok (.pointer (some ⟨w.heap.size, 0, none⟩)) (w.alloc (.cells ((tabT [] []).flatMap encR).toArray 308)) := by kernel_rfl
theorem fieldPat54 (g : Nat) (w : World) : (Instr.fieldAt 31 (.pointer (some ⟨g, 0, none⟩)) 0).run Tryz.prog w = .ok (.pointer (some ⟨g, 0, none⟩)) w := by simp [go_sem]
theorem fieldPid0 (g : Nat) (w : World) : (Instr.fieldAt 27 (.pointer (some ⟨g, 0, none⟩)) 0).run Tryz.prog w = .ok (.pointer (some ⟨g, 0, none⟩)) w := by simp [go_sem]
theorem loadU8 (b o : Nat) (w : World) (z : Int) (h : w.cell? ⟨b, o, none⟩ = some (.int .u8 z)) : (Instr.loadAt 5 (.pointer (some ⟨b, o, none⟩))).run Tryz.prog w = .ok (.int .u8 z) w := by simp [go_sem, h]
theorem indexBy (b a : Nat) (w : World) (ha : a < 65) : (Instr.indexAt 308 (.pointer (some ⟨b, 0, none⟩)) (.int .u8 ((a : Nat) : Int))).run Tryz.prog w = .ok (.pointer (some ⟨b, a * 9, none⟩)) w := by
 have h0 : (0 : Int) ≤ (a : Int) := by omega
 have h1 : (a : Int) < 65 := by omega
 simp [go_sem, h0, h1]
theorem GraphAt.keptB {w w' : World} {F G : Nat → Prop} {g : Nat} {L : List PatV} (h : GraphAt w F g L) (hk : Kept G w w') (hd : ∀ q, F q → ¬ G q) : GraphAt w' F g L := h.stay (hk.stay fun q _ e => hd q e)
def CenRet (w : World) (R : List RowR) (e : Ending) (w' : World) : Prop := ∃ A c, e = .returned (.slice A R.length c) ∧ Below w.heap.size w w' ∧ Sl w' w'.heap.size 9 A R.length (R.flatMap encR)
set_option maxRecDepth 100000 in
set_option maxHeartbeats 8000000 in
theorem of54_any (l : List PatV) (w : World) (A : Option Addr) (n c : Nat) (h : PatsAt w A n l) (hn : n ≤ 20) :
  Calls Tryz.prog 132 #[.slice A n c] w (CenRet w (rowsC (runG [] l))) := by
 have H0 := Lib.hid h
 have hln := Lib.hid h.len
 clear h
 go_enter Tryz.func132, Tryz.ntmps132
 go_wp2_with fail
 refine (new20_any w).mono ?_
 rintro e w2 ⟨F, g, rfl, hG, hFw, b2⟩
 have HG := Lib.hid hG
 have B2 := Lib.hid b2
 have hF0 := Lib.hid hFw
 clear hG hFw b2
 have TB : Hid (RowIn (w2.alloc (.cells ((tabT [] []).flatMap encR).toArray 308)) w2.heap.size 308 (tabT [] [])) := Blk.new _ _ _
 have BN : Hid (Below w2.heap.size w2 (w2.alloc (.cells ((tabT [] []).flatMap encR).toArray 308))) := below_new _ _
 have hFw : Hid (∀ q, F q → w.heap.size ≤ q ∧ q ≠ w2.heap.size) := fun q e => ⟨hF0.out q e, fun e2 => by have := HG.out.mem.lt q e; omega⟩
 have hgb : Hid (w.heap.size ≤ w2.heap.size) := B2.out.size
 have HG := Lib.hid (HG.out.ext BN.out)
 have B3 := Lib.hid (B2.out.trans (BN.out.mono B2.out.size))
 clear BN B2 hF0
 go_upto_region 3 with (refine wpList_alloced (allocBy _) ?_)
 generalize (w2.alloc (.cells ((tabT [] []).flatMap encR).toArray 308)) = w3 at *
 generalize w2.heap.size = gb at *
 go_wp2_with fail
 go_loopw [12] (fun iv wr => ∃ (k : Nat) (L : List PatV), k ≤ n ∧ iv = .int .i64 ((k : Nat) : Int) ∧ Hid (L = runG [] (l.take k)) ∧ Hid (GraphAt wr F g L) ∧ Hid (RowIn wr gb 308 (tabT L [])) ∧ Hid (Below w.heap.size w wr)) (fun iv _ => n - (intOf iv).toNat)
 case atStart => exact ⟨0, [], Nat.zero_le _, rfl, rfl, HG.out, TB.out, B3.out⟩
 case round =>
  clear HG TB B3
  obtain ⟨k, L, hk, rfl, hL, G, T, B⟩ := hrel
  have hk0 : (0 : Int) ≤ (k : Int) := by omega
  have hL20 : Hid (L.length ≤ 20) := by
   have h1 := (runG_len (l.take k) []).1
   have h2 : (runG [] (l.take k)).length ≤ (l.take k).length := runG_few54 (l.take k)
   rw [List.length_take, hln.out] at h2
   rw [Hid, hL.out]; omega
  have hLg : Hid (∀ p ∈ L, patB p = true) := G.out.ok.good
  by_cases hlt : k < n
  ·have hlk : (k : Int) < (n : Int) := by omega
   obtain ⟨b, o, p, rp, rfl, hb, hp, pa, R⟩ := H0.out.at_ hlt
   have hi4 : (Tryz.prog.info? 31).map (·.size) = some rp.length := by rw [pa.len4]; exact infoPat
   have hi5 : (Tryz.prog.info? 31).map (·.size) = some rp.toArray.size := by rw [List.size_toArray]; exact hi4
   have hone := all_oneCell_toArray pa.one
   have hz4 : (#[.int .u8 0, .int .u16 0, .slice none 0 0, .slice none 0 0] : Array Value).size = rp.toArray.size := by
    show 4 = rp.toArray.size
    rw [List.size_toArray, pa.len4]
   have R := Lib.hid (rangeAt_below R B.out hb)
   have z0 : Hid (rp.toArray[0]? = some (.int .u8 ((p.1.1.val : Nat) : Int))) := by
    obtain ⟨⟨A1, c1, A2, c2, e, _⟩, _, _⟩ := pa
    rw [Hid, e]; rfl
   have P0 := Lib.hid pa.in_
   have NLg : Hid (grL L p = runG [] (l.take (k + 1))) := by rw [Hid, runG_snoc [] hp, ← hL.out]
   clear pa hb hp
   have KZ : Hid (Blk (wr.alloc (.cells #[.int .u8 0, .int .u16 0, .slice none 0 0, .slice none 0 0] 31)) wr.heap.size 31 #[.int .u8 0, .int .u16 0, .slice none 0 0, .slice none 0 0]) := Blk.new _ _ _
   have KO : Hid (Blk ((wr.alloc (.cells #[.int .u8 0, .int .u16 0, .slice none 0 0, .slice none 0 0] 31)).setRow wr.heap.size rp.toArray) wr.heap.size 31 rp.toArray) := KZ.out.row _
   have BN : Hid (Below wr.heap.size wr ((wr.alloc (.cells #[.int .u8 0, .int .u16 0, .slice none 0 0, .slice none 0 0] 31)).setRow wr.heap.size rp.toArray)) := below_setRow (below_new wr _) (Nat.le_refl _) _
   go_upto_region 6 with (first
    | (refine wpList_load_mid rfl 31 _ (by rfl) b (o + k * 4) (by rfl) _ _ R.out underPat rfl hi4 ?_)
    | (refine wpList_alloced (allocPat54 _) ?_)
    | (refine wpList_store_row rfl 31 _ _ (by rfl) wr.heap.size rp.toArray (by rfl) (by rfl) _ _ KZ.out hi5 hz4 hone ?_))
   have G5 := Lib.hid (G.out.ext BN.out)
   have T5 := Lib.hid (T.out.ext BN.out)
   have B5 := Lib.hid (B.out.trans (BN.out.mono B.out.size))
   have hgF : Hid (¬ F wr.heap.size ∧ wr.heap.size ≠ gb) := ⟨fun e => by have := G.out.mem.lt _ e; omega, by have := Blk.lt T.out; omega⟩
   generalize ((wr.alloc (.cells #[.int .u8 0, .int .u16 0, .slice none 0 0, .slice none 0 0] 31)).setRow wr.heap.size rp.toArray) = w5 at *
   generalize wr.heap.size = gp at *
   clear BN KZ R G T B hi5 hone hz4
   have PI5 : Hid (PatIn w5 (fun q => q < w.heap.size) rp p) := P0.out.ext B5.out
   have HAP := Lib.hid (apply20_any G5.out p rp PI5.out (fun q e1 e2 => by have := (hFw.out q e2).1; omega))
   go_wp2_with (refine wpList_load_row rfl 31 _ (by rfl) gp (by rfl) _ _ _ _ KO.out underPat rfl (by rw [List.size_toArray]; exact hi4) ?_)
   refine HAP.out.mono ?_
   rintro e w6 ⟨rfl, kp, G6⟩
   have KO := Lib.hid (kp.blk KO.out hgF.out.1)
   have T6 := Lib.hid (T5.out.kept kp fun e => (hFw.out gb e).2 rfl)
   have B6 := Lib.hid (B5.out.trans (kp.below (fun q e => (hFw.out q e).1) B5.out.size))
   have G6 := Lib.hid G6
   clear kp HAP G5 T5 PI5 B5
   by_cases he : grE L p = 0
   ·have hpb : Hid (patB p = true) := (grE_zero he).1
    have NL : Hid (L ++ [p] = runG [] (l.take (k + 1))) := by rw [Hid, ← NLg.out]; unfold grL; rw [if_pos he]
    have TE : Hid ((tabT L []).set p.1.1.val (addR (rowT L [] p.1.1.val) p) = tabT (L ++ [p]) []) := (tab_put L [] p).symm
    have ha65 : p.1.1.val < 65 := by have := (patB_author hpb.out).2; omega
    have G6 : Hid (GraphAt w6 F g (L ++ [p])) := by
     have h1 := G6.out
     unfold grL at h1
     rw [if_pos he] at h1
     exact h1
    have PI6 : Hid (PatIn w6 (fun q => q ≠ gb) rp p) := (P0.out.ext B6.out).mono fun q e => by have := hgb.out; omega
    have hq : ((grE L p : Nat) : Int) = 0 := by omega
    have Y0 : Hid (∀ u, Kept (fun q => q = gb) w6 u → u.cell? ⟨gp, 0, none⟩ = some (.int .u8 ((p.1.1.val : Nat) : Int))) := fun u hu => ((hu.blk KO.out hgF.out.2).cell 0).trans z0.out
    have YR : Hid (∀ u, Kept (fun q => q = gb) w6 u → u.rangeAt gp 0 rp) := fun u hu => blk_pat (hu.blk KO.out hgF.out.2)
    have hcA : ∀ args u, (callFunc 214 args).run Tryz.prog u = .ok (.enter 214 args) u := enters_of Tryz.func214 (by kernel_rfl) rfl
    clear he
    go_wp2_with fail
    have wd0 : Hid (RowIn w6.drew gb 308 (tabT L [])) := T6.out
    have BD : Hid (Kept (fun q => q = gb) w6 w6.drew) := (Kept.refl _ _).drew
    have HADD : Hid (Calls Tryz.prog 214 #[.pointer (some ⟨gb, p.1.1.val * 9, none⟩), .agg rp.toArray] w6.drew (fun e w' => e = .returned (.tuple #[]) ∧ Kept (fun q => q = gb) w6.drew w' ∧ RowIn w' gb 308 ((tabT L []).set p.1.1.val (addR (rowT L [] p.1.1.val) p)))) := addRow_any p hpb.out rp w6.drew gb (PI6.out.stay (BD.out.stay fun _ _ e1 e2 => e1 e2)) _ (tabT L []) p.1.1.val _ wd0.out (tabT_at L [] ha65) (rowT_ok hLg.out hL20.out)
    clear wd0 T6 PI6
    refine wp_region_held (S := fun w' => Kept (fun q => q = gb) w6 w') mixedS ?_
    change wpAnyH _ _ _ _ _ _ _ _ w6.drew
    generalize w6.drew = wd at *
    simp only [List.size_toArray, List.length_cons, List.length_nil]
    refine takeV (i := 0) (d := 20) (v := .pointer (some ⟨gp, 0, none⟩)) rfl (by kernel_rfl) (by kernel_rfl) (by kernel_rfl) (fun _ _ _ h => h) rfl (fun w' _ => exField rfl (fieldPat54 gp w')) BD.out ?_
    simp only [Act.put, List.setIfInBounds_toArray, List.set_cons_zero, List.set_cons_succ]
    refine takeV (i := 1) (d := 21) (v := .pointer (some ⟨gp, 0, none⟩)) rfl (by kernel_rfl) (by kernel_rfl) (by kernel_rfl) (fun _ _ _ h => h) rfl (fun w' _ => exField rfl (fieldPid0 gp w')) BD.out ?_
    simp only [Act.put, List.setIfInBounds_toArray, List.set_cons_zero, List.set_cons_succ]
    refine takeV (i := 2) (d := 22) (v := .int .u8 ((p.1.1.val : Nat) : Int)) rfl (by kernel_rfl) (by kernel_rfl) (by kernel_rfl) (fun _ _ _ h => h) rfl (fun w' h => exLoad rfl (loadU8 gp 0 w' ((p.1.1.val : Nat) : Int) (Y0.out w' h))) BD.out ?_
    simp only [Act.put, List.setIfInBounds_toArray, List.set_cons_zero, List.set_cons_succ]
    refine takeV (i := 3) (d := 23) (v := .pointer (some ⟨gb, p.1.1.val * 9, none⟩)) rfl (by kernel_rfl) (by kernel_rfl) (by kernel_rfl) (fun _ _ _ h => h) rfl (fun w' _ => exIndex rfl rfl (indexBy gb p.1.1.val w' ha65)) BD.out ?_
    simp only [Act.put, List.setIfInBounds_toArray, List.set_cons_zero, List.set_cons_succ]
    refine takeV (i := 4) (d := 24) (v := .agg rp.toArray) rfl (by kernel_rfl) (by kernel_rfl) (by kernel_rfl) (fun _ _ _ h => h) rfl (fun w' h => exMid rfl (YR.out w' h) underPat rfl hi4) BD.out ?_
    simp only [Act.put, List.setIfInBounds_toArray, List.set_cons_zero, List.set_cons_succ]
    refine wpAnyH_all (rs := [5]) (by kernel_rfl) (by simp) ?_
    intro i hi
    simp only [List.mem_cons, List.not_mem_nil, or_false] at hi
    subst hi
    refine wpOp_of rfl rfl (wp_called (args := #[.pointer (some ⟨gb, p.1.1.val * 9, none⟩), .agg rp.toArray]) hcA (by simp only [List.map_toArray, List.map_cons, List.map_nil]; rfl) HADD.out ?_)
    rintro e w9 ⟨rfl, k9, T9⟩
    have B9 := Lib.hid (BD.out.trans k9 fun _ e => .inl e)
    have T9 := Lib.hid T9
    refine ⟨_, rfl, B9.out, ?_⟩
    simp only [Act.put, List.setIfInBounds_toArray, List.set_cons_zero, List.set_cons_succ]
    clear k9 BD
    refine wpAnyH_done (by kernel_rfl) ?_ _
    rw [TE.out] at T9
    have BF := Lib.hid (B6.out.trans (B9.out.below (fun q e => by have e : q = gb := e; rw [e]; exact hgb.out) B6.out.size))
    have GF := Lib.hid (G6.out.keptB B9.out fun q e1 e2 => (hFw.out q e1).2 e2)
    clear B9 B6 G6 KO YR Y0 HADD
    go_wp2_with fail
    go_roundw
    case rel => exact ⟨k + 1, L ++ [p], by omega, by go_num, NL.out, GF.out, T9.out, BF.out⟩
    case measure => simp [intOf]; omega
   ·have NL : Hid (L = runG [] (l.take (k + 1))) := by rw [Hid, ← NLg.out]; unfold grL; rw [if_neg he]
    have G6 : Hid (GraphAt w6 F g L) := by
     have h1 := G6.out
     unfold grL at h1
     rw [if_neg he] at h1
     exact h1
    have hq : (((grE L p : Nat) : Int) == 0) = false := beq_eq_false_iff_ne.2 (by omega)
    clear he KO
    go_wp2_with fail
    go_roundw
    case rel => exact ⟨k + 1, L, by omega, by go_num, NL.out, G6.out, T6.out, B6.out⟩
    case measure => simp [intOf]; omega
  ·have hlk : ¬ (k : Int) < (n : Int) := by omega
   rw [List.take_of_length_le (by rw [hln.out]; omega)] at hL
   have HV := Lib.hid (verts20_any G.out (by have := hL20.out; omega))
   have hVl : Hid ((vertsL L).length ≤ 80000) := vertsL_few G.out.ok (by have := hL20.out; omega)
   have hVa : Hid (∀ x ∈ vertsL L, x.1.1.1.val ≤ 64) := fun x hx => G.out.ok.vauth hx
   go_wp2_with fail
   refine HV.out.mono ?_
   rintro e w4 ⟨v, rfl, own, b4⟩
   obtain ⟨V, hV⟩ : ∃ V, V = vertsL L := ⟨_, rfl⟩
   rw [← hV] at own hVl hVa
   replace hV := Lib.hid hV
   obtain ⟨m, hm⟩ : ∃ m, m = V.length := ⟨_, rfl⟩
   rw [← hm] at own hVl
   replace hm := Lib.hid hm
   obtain ⟨AV, cV, rfl, -, -⟩ := Sl.of_own own
   have T4 := Lib.hid (T.out.ext b4)
   have B4 := Lib.hid (B.out.trans (b4.mono B.out.size))
   have hob : Hid (∀ q, (Value.slice AV m cV).ownBlock = some q → q ≠ gb) := fun q e => by have h1 := (own.lt q e).1; have h2 := Blk.lt T.out; omega
   have own := Lib.hid own
   have hgb4 := Lib.hid B.out.size
   clear b4 HV T G
   go_wp2_with fail
   go_loopw [30] (fun iv ws => ∃ j : Nat, j ≤ m ∧ iv = .int .i64 ((j : Nat) : Int) ∧ Hid (RowIn ws gb 308 (tabT L (V.take j))) ∧ Hid (ws.ownsRow wr.heap.size 134 9 (.slice AV m cV) m (V.flatMap encX)) ∧ Hid (Below w.heap.size w ws)) (fun iv _ => m - (intOf iv).toNat)
   case atStart => exact ⟨0, Nat.zero_le _, rfl, T4.out, own.out, B4.out⟩
   case round =>
    clear T4 own B4 B
    obtain ⟨j, hj, rfl, T, own, B⟩ := hrel
    have hj0 : (0 : Int) ≤ (j : Int) := by omega
    by_cases hjt : j < m
    ·have hjk : (j : Int) < (m : Int) := by omega
     obtain ⟨A', c', e', -, va⟩ := VertsAt.of_own own.out hm.out.symm
     injection e' with e1 _ e3
     subst e1 e3
     have hm8 : m ≤ 80000 := hVl.out
     obtain ⟨bv, ov, x, rfl, hbv, hx, hr⟩ := va.at_ hjt
     have RX := Lib.hid hr
     have hx64 : x.1.1.1.val < 65 := by have := hVa.out x (List.mem_of_getElem? hx); omega
     have hal : aliveA (V.take j) x.1.1.1.val ≤ 80000 := by have h1 := aliveA_le (V.take j) x.1.1.1.val; rw [List.length_take] at h1; have := hVl.out; omega
     have VS : Hid (V.take (j + 1) = V.take j ++ [x]) := by rw [Hid, List.take_add_one, hx]; rfl
     have KZ : Hid (Blk (wr.alloc (.cells zeroX 134)) wr.heap.size 134 zeroX) := Blk.new _ _ _
     have KO : Hid (Blk ((wr.alloc (.cells zeroX 134)).setRow wr.heap.size (encX x).toArray) wr.heap.size 134 (encX x).toArray) := KZ.out.row _
     have BN : Hid (Below wr.heap.size wr ((wr.alloc (.cells zeroX 134)).setRow wr.heap.size (encX x).toArray)) := below_setRow (below_new wr _) (Nat.le_refl _) _
     clear va hx hr hbv
     go_upto_region 12 with (first
      | (refine wpList_load_mid rfl 134 _ (by rfl) bv (ov + j * 9) (by rfl) _ _ RX.out underVert rfl infoVert ?_)
      | (refine wpList_alloced (allocVert _) ?_)
      | (refine wpList_store_row rfl 134 _ _ (by rfl) wr.heap.size (encX x).toArray (by rfl) (by rfl) _ _ KZ.out infoVert rfl (encX_all x) ?_))
     have T5 := Lib.hid (T.out.ext BN.out)
     have own5 := Lib.hid (own_ext own.out BN.out)
     have B5 := Lib.hid (B.out.trans (BN.out.mono B.out.size))
     have hvb : Hid (wr.heap.size ≠ gb) := by have := Blk.lt T.out; rw [Hid]; omega
     generalize ((wr.alloc (.cells zeroX 134)).setRow wr.heap.size (encX x).toArray) = w5 at *
     generalize wr.heap.size = gv at *
     clear BN KZ RX T own B
     have y8 : w5.cell? ⟨gv, 8, none⟩ = some (.bool x.2.2.2.2) := KO.out.cell 8
     have y0 : w5.cell? ⟨gv, 0, none⟩ = some (.int .u8 ((x.1.1.1.val : Nat) : Int)) := KO.out.cell 0
     cases hd : x.2.2.2.2
     ·rw [hd] at y8
      have hk5 := tabT_at L (V.take j) hx64
      obtain ⟨al, hale⟩ : ∃ al, al = aliveA (V.take j) x.1.1.1.val := ⟨_, rfl⟩
      rw [← hale] at hal
      have ya : w5.cell? ⟨gb, x.1.1.1.val * 9 + 8, none⟩ = some (.int .i64 ((al : Nat) : Int)) := by rw [hale]; exact tab_cell T5.out hk5 (j := 8) (by omega)
      have fa : w5.frozen? ⟨gb, x.1.1.1.val * 9 + 8, none⟩ = false := Blk.fr T5.out _
      have xa : IntKind.i64.wrap ((al : Int) + 1) = (al : Int) + 1 := IntWalk.i64_in _ (by omega)
      have T6 : Hid (RowIn (w5.setCell ⟨gb, x.1.1.1.val * 9 + 8, none⟩ (.int .i64 ((al : Int) + 1))) gb 308 (tabT L (V.take (j + 1)))) := by
       rw [Hid, VS.out, tab_live L (V.take j) x hd]
       exact tab_set T5.out hk5 (j := 8) (by omega) (by rw [hale]; rfl)
      have kp : Kept (fun q => q = gb) w5 (w5.setCell ⟨gb, x.1.1.1.val * 9 + 8, none⟩ (.int .i64 ((al : Int) + 1))) := (Kept.refl (fun q => q = gb) w5).setCell (p := ⟨gb, x.1.1.1.val * 9 + 8, none⟩) (.inl rfl) _
      have own6 := Lib.hid (own_keepF own5.out fun q e => kp.block q (own5.out.lt q e).2 (hob.out q e))
      have B6 := Lib.hid (B5.out.trans (kp.below (fun q e => by have e : q = gb := e; rw [e]; exact hgb.out) B5.out.size))
      have hxi : (0 : Int) ≤ ((x.1.1.1.val : Nat) : Int) := by omega
      have hxj : ((x.1.1.1.val : Nat) : Int) < 65 := by omega
      clear hk5 kp T5 own5 B5 KO hale hd
      go_upto_region 14 with fail
      clear ya fa xa y0 y8
      generalize (w5.setCell ⟨gb, x.1.1.1.val * 9 + 8, none⟩ (.int .i64 ((al : Int) + 1))) = w6 at *
      go_wp2_with fail
      go_roundw
      case rel => exact ⟨j + 1, by omega, by go_num, T6.out, own6.out, B6.out⟩
      case measure => simp [intOf]; omega
     ·rw [hd] at y8
      have T6 : Hid (RowIn w5 gb 308 (tabT L (V.take (j + 1)))) := by rw [Hid, VS.out, tab_dead L (V.take j) x hd]; exact T5.out
      clear T5 KO hd
      go_wp2_with fail
      go_roundw
      case rel => exact ⟨j + 1, by omega, by go_num, T6.out, own5.out, B5.out⟩
      case measure => simp [intOf]; omega
    ·have hjk : ¬ (j : Int) < (m : Int) := by omega
     rw [List.take_of_length_le (by rw [← hm.out]; omega), hV.out] at T
     have HD := Lib.hid (delete54_any T.out 65 (tabT_len _ _) (by omega))
     rw [tab_rows, hL.out] at HD
     clear own
     go_wp2_with fail
     refine HD.out.mono ?_
     rintro e w7 ⟨rfl, k7, S7⟩
     have B7 := Lib.hid (B.out.trans (k7.below (fun q e => by have e : q = gb := e; rw [e]; exact hgb.out) B.out.size))
     have S7 := Lib.hid S7
     clear k7 HD T B
     go_wp2_with fail
     go_ret
     exact ⟨_, _, rfl, B7.out, S7.out⟩
end Go.Proofs.YtihggkmjalofiaaGreatDoor
