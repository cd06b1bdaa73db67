/- Texts of general use, one behind another. -/
import Derived.Test.YtihggkmjalofiaaGreatDoorGen
import Derived.Laws.ResultCell

/- Vectors: joined and met. -/
namespace Go.Proofs.YtihggkmjalofiaaGreatDoor
open Go.RowKit

def vecA (l : List Int) : Array Value := (l.map (Value.int .u16)).toArray
/-- a vector's numbers -/
structure VecOk (l : List Int) : Prop where
  len : l.length = 64
  bd : ∀ n ∈ l, 0 ≤ n ∧ n ≤ 65535
theorem VecOk.get {l : List Int} (h : VecOk l) (k : Nat) (hk : k < 64) : 0 ≤ l.getD k 0 ∧ l.getD k 0 ≤ 65535 := by
  have hl : k < l.length := by rw [h.len]; exact hk
  rw [List.getD_eq_getElem?_getD, List.getElem?_eq_getElem hl]; exact h.bd _ (List.getElem_mem hl)
theorem vecA_get (l : List Int) (k : Nat) (hk : k < l.length) : (vecA l)[k]? = some (.int .u16 (l.getD k 0)) := by
  simp [vecA, hk]
theorem vecA_set (l : List Int) (k : Nat) (v : Int) : (vecA l).setIfInBounds k (.int .u16 v) = vecA (l.set k v) := by
  simp [vecA, List.map_set]
theorem vecA_size (l : List Int) : (vecA l).size = l.length := by simp [vecA]
theorem vecA_one (l : List Int) : (vecA l).all (·.oneCell') = true := by
  simp [vecA, Value.oneCell']
def vec0 : List Int := List.replicate 64 0
theorem alloc64 (w : World) : (Instr.alloc 75 true (.tuple #[])).run Tryz.prog w = .ok (.pointer (some ⟨w.heap.size, 0, none⟩)) (w.alloc (.cells (vecA vec0) 75)) := by kernel_rfl
theorem info64 : (Tryz.prog.info? 75).map (·.size) = some 64 := by kernel_rfl
theorem under64 : Tryz.prog.underlying 75 = some (.array 64 25) := by kernel_rfl
theorem mixed : Tryz.prog.follows .mixedOrders = true := by kernel_rfl

end Go.Proofs.YtihggkmjalofiaaGreatDoor

/- Vectors: within, total, lack. -/
namespace Go.Proofs.YtihggkmjalofiaaGreatDoor
open Go.RowKit

end Go.Proofs.YtihggkmjalofiaaGreatDoor

/- Vectors: all patches; what has, what comes next. -/
namespace Go.Proofs.YtihggkmjalofiaaGreatDoor
open Go.RowKit

end Go.Proofs.YtihggkmjalofiaaGreatDoor

/- Vectors: an author's number, the patch that comes next, whether a patch is had; the chapter's example. -/
namespace Go.Proofs.YtihggkmjalofiaaGreatDoor
open Go.RowKit

def inV (n : Nat) : Bool := decide (1 ≤ n ∧ n ≤ 64)
def ofV (a : List Int) (n : Nat) : Int := if inV n = true then a.getD (n - 1) 0 else 0
theorem ofV_bd {a : List Int} (ha : VecOk a) (n : Nat) : 0 ≤ ofV a n ∧ ofV a n ≤ 65535 := by
  unfold ofV inV
  split
  · rename_i h; have := of_decide_eq_true h; exact ha.get (n - 1) (by omega)
  · omega

set_option maxRecDepth 100000 in
set_option maxHeartbeats 1000000 in
theorem number_any (a : List Int) (ha : VecOk a) (n : Nat) (hn : n < 256) (w : World) : Calls Tryz.prog 186 #[.agg (vecA a), .int .u8 n] w (RetB w (.tuple #[.int .u16 (ofV a n), .bool (inV n)])) := by
  have K1 : Hid (Blk (w.alloc (.cells (vecA a) 75)) w.heap.size 75 (vecA a)) := Blk.new _ _ _
  have B0 : Hid (Below w.heap.size w (w.alloc (.cells (vecA a) 75))) := (Below.refl _ _).alloc (Nat.le_refl _) _
  by_cases h1 : 1 ≤ n
  · by_cases h2 : n ≤ 64
    · have hi : inV n = true := decide_eq_true ⟨h1, h2⟩
      have F : Hid (ofV a n = a.getD (n - 1) 0) := if_pos hi
      have G := Lib.hid hi
      have c1 := K1.out.cell (n - 1)
      rw [vecA_get _ _ (by rw [ha.len]; omega)] at c1
      obtain ⟨m, rfl⟩ : ∃ m, n = m + 1 := ⟨n - 1, by omega⟩
      rw [Nat.add_sub_cancel] at c1 F
      have hb0 : ((m : Nat) : Int) < 64 := by omega
      have hb1 : (0 : Int) ≤ (m : Int) := by omega
      clear ha h1 h2 hi
      generalize a.getD m 0 = x at *
      go_enter Tryz.func186, Tryz.ntmps186
      go_wp2
      go_ret2
      refine ⟨?_, B0.out⟩
      rw [F.out, G.out]; rfl
    · have hi : inV n = false := decide_eq_false (by omega)
      have F : Hid (ofV a n = 0) := by unfold ofV; rw [hi]; rfl
      have G := Lib.hid hi
      have hd : (64 : Int) < (n : Int) := by omega
      clear ha hi
      go_enter Tryz.func186, Tryz.ntmps186
      go_wp2
      go_ret2
      refine ⟨?_, B0.out⟩
      rw [F.out, G.out]; rfl
  · have hi : inV n = false := decide_eq_false (by omega)
    have F : Hid (ofV a n = 0) := by unfold ofV; rw [hi]; rfl
    have G := Lib.hid hi
    have hd : (n : Int) < 1 := by omega
    clear ha hi h1
    go_enter Tryz.func186, Tryz.ntmps186
    go_wp2
    go_ret2
    refine ⟨?_, B0.out⟩
    rw [F.out, G.out]; rfl

def nextV (a : List Int) (n : Nat) : Int × Int := if inV n = true ∧ ofV a n < 60000 then ((n : Int), ofV a n + 1) else (0, 0)

set_option maxRecDepth 100000 in
set_option maxHeartbeats 1000000 in
theorem next_any (a : List Int) (ha : VecOk a) (n : Nat) (hn : n < 256) (w : World) : Calls Tryz.prog 144 #[.agg (vecA a), .int .u8 n] w (RetB w (.agg #[.int .u8 (nextV a n).1, .int .u16 (nextV a n).2])) := by
  have HN := Lib.hid (fun w0 => number_any a ha n hn w0)
  have hs1 : Hid ((vecA a).size = 64) := by rw [Hid, vecA_size]; exact ha.len
  obtain ⟨x0, x1⟩ := ofV_bd ha n
  have F : Hid (nextV a n = if inV n = true ∧ ofV a n < 60000 then ((n : Int), ofV a n + 1) else (0, 0)) := rfl
  clear ha
  generalize ofV a n = x at *
  generalize inV n = i at *
  have K1 : Hid (Blk ((w.alloc (.cells (vecA a) 75)).alloc (.cells #[.int .u8 0, .int .u16 0] 27)) w.heap.size 75 (vecA a)) := (Blk.new _ _ _).alloc _
  have B0 : Hid (Below w.heap.size w ((w.alloc (.cells (vecA a) 75)).alloc (.cells #[.int .u8 0, .int .u16 0] 27))) := ((Below.refl _ _).alloc (Nat.le_refl _) _).alloc (by simp) _
  have K2 : Hid (Blk ((w.alloc (.cells (vecA a) 75)).alloc (.cells #[.int .u8 0, .int .u16 0] 27)) (w.heap.size + 1) 27 #[.int .u8 0, .int .u16 0]) := Blk.newAt (by simp) _ _
  go_enter Tryz.func144, Tryz.ntmps144
  go_wp2_with (refine wpList_load_row rfl 75 _ (by rfl) w.heap.size (by rfl) _ _ _ _ K1.out under64 rfl (by rw [hs1.out]; exact info64) ?_)
  generalize ((w.alloc (.cells (vecA a) 75)).alloc (.cells #[.int .u8 0, .int .u16 0] 27)) = w0 at *
  refine (HN.out _).mono ?_
  rintro e w1 ⟨rfl, b1⟩
  have K3 := Lib.hid (K2.out.ext b1)
  have B1 := Lib.hid (B0.out.trans (b1.mono B0.out.size))
  have p0 : w1.cell? ⟨w.heap.size + 1, 0, none⟩ = some (.int .u8 0) := K3.out.cell 0
  have p1 : w1.cell? ⟨w.heap.size + 1, 1, none⟩ = some (.int .u16 0) := K3.out.cell 1
  have f0 := K3.out.fr 0
  have f1 := K3.out.fr 1
  clear b1 HN
  by_cases hi : i = true
  · subst hi
    by_cases hx : x < 60000
    · have G : Hid (nextV a n = ((n : Int), x + 1)) := by rw [Hid, F.out, if_pos ⟨rfl, hx⟩]
      have hd : decide ((60000 : Int) ≤ x) = false := decide_eq_false (by omega)
      go_wp2
      refine bodyPost_ret (results_cell_row rfl _ _ (w.heap.size + 1) _ #[.int .u8 n, .int .u16 (x + 1)] _ _ rfl ((K3.out.set_ 0 (.int .u8 n)).set_ 1 (.int .u16 (x + 1))) Tryz.underlying27 rfl (by kernel_rfl)) rfl ?_
      rw [G.out]
      exact ⟨rfl, (B1.out.setCell (p := ⟨w.heap.size + 1, 0, none⟩) (by simp) _).setCell (p := ⟨w.heap.size + 1, 1, none⟩) (by simp) _⟩
    · have G : Hid (nextV a n = (0, 0)) := by rw [Hid, F.out, if_neg (by omega)]
      have hd : decide ((60000 : Int) ≤ x) = true := decide_eq_true (by omega)
      go_wp2
      refine bodyPost_ret (results_cell_row rfl _ _ (w.heap.size + 1) _ #[.int .u8 0, .int .u16 0] _ _ rfl ((K3.out.set_ 0 (.int .u8 0)).set_ 1 (.int .u16 0)) Tryz.underlying27 rfl (by kernel_rfl)) rfl ?_
      rw [G.out]
      exact ⟨rfl, (B1.out.setCell (p := ⟨w.heap.size + 1, 0, none⟩) (by simp) _).setCell (p := ⟨w.heap.size + 1, 1, none⟩) (by simp) _⟩
  · have hi' : i = false := by simpa using hi
    subst hi'
    have G : Hid (nextV a n = (0, 0)) := by rw [Hid, F.out, if_neg (by simp)]
    clear hi
    go_wp2
    refine bodyPost_ret (results_cell_row rfl _ _ (w.heap.size + 1) _ #[.int .u8 0, .int .u16 0] _ _ rfl ((K3.out.set_ 0 (.int .u8 0)).set_ 1 (.int .u16 0)) Tryz.underlying27 rfl (by kernel_rfl)) rfl ?_
    rw [G.out]
    exact ⟨rfl, (B1.out.setCell (p := ⟨w.heap.size + 1, 0, none⟩) (by simp) _).setCell (p := ⟨w.heap.size + 1, 1, none⟩) (by simp) _⟩

/-- whether a vector has a patch -/
def hasV (a : List Int) (n : Nat) (s : Int) : Bool := inV n && decide (1 ≤ s ∧ s ≤ ofV a n)

set_option maxRecDepth 100000 in
set_option maxHeartbeats 1000000 in
theorem has_any (a : List Int) (ha : VecOk a) (n : Nat) (hn : n < 256) (s : Int) (w : World) : Calls Tryz.prog 96 #[.agg (vecA a), .agg #[.int .u8 n, .int .u16 s]] w (RetB w (.bool (hasV a n s))) := by
  have HN := Lib.hid (fun w0 => number_any a ha n hn w0)
  have hs1 : Hid ((vecA a).size = 64) := by rw [Hid, vecA_size]; exact ha.len
  have F : Hid (hasV a n s = (inV n && decide (1 ≤ s ∧ s ≤ ofV a n))) := rfl
  clear ha
  generalize ofV a n = x at *
  generalize inV n = i at *
  have K1 : Hid (Blk ((w.alloc (.cells (vecA a) 75)).alloc (.cells #[.int .u8 n, .int .u16 s] 27)) w.heap.size 75 (vecA a)) := (Blk.new _ _ _).alloc _
  have B0 : Hid (Below w.heap.size w ((w.alloc (.cells (vecA a) 75)).alloc (.cells #[.int .u8 n, .int .u16 s] 27))) := ((Below.refl _ _).alloc (Nat.le_refl _) _).alloc (by simp) _
  have K2 : Hid (Blk ((w.alloc (.cells (vecA a) 75)).alloc (.cells #[.int .u8 n, .int .u16 s] 27)) (w.heap.size + 1) 27 #[.int .u8 n, .int .u16 s]) := Blk.newAt (by simp) _ _
  go_enter Tryz.func96, Tryz.ntmps96
  go_wp2_with (refine wpList_load_row rfl 75 _ (by rfl) w.heap.size (by rfl) _ _ _ _ K1.out under64 rfl (by rw [hs1.out]; exact info64) ?_)
  generalize ((w.alloc (.cells (vecA a) 75)).alloc (.cells #[.int .u8 n, .int .u16 s] 27)) = w0 at *
  refine (HN.out _).mono ?_
  rintro e w1 ⟨rfl, b1⟩
  have K3 := Lib.hid (K2.out.ext b1)
  have B1 := Lib.hid (B0.out.trans (b1.mono B0.out.size))
  have p1 : w1.cell? ⟨w.heap.size + 1, 1, none⟩ = some (.int .u16 s) := K3.out.cell 1
  clear b1 HN
  by_cases hi : i = true
  · subst hi
    by_cases h1 : 1 ≤ s
    · by_cases h2 : s ≤ x
      · have G : Hid (hasV a n s = true) := by rw [Hid, F.out, decide_eq_true ⟨h1, h2⟩]; rfl
        go_wp2
        go_ret
        exact ⟨ret_bool (by rw [G.out]), B1.out⟩
      · have G : Hid (hasV a n s = false) := by rw [Hid, F.out, decide_eq_false (by omega)]; rfl
        have hd : decide (s ≤ x) = false := decide_eq_false h2
        go_wp2
        go_ret
        exact ⟨ret_bool G.out.symm, B1.out⟩
    · have G : Hid (hasV a n s = false) := by rw [Hid, F.out, decide_eq_false (by omega)]; rfl
      have hd : decide (1 ≤ s) = false := decide_eq_false h1
      go_wp2
      go_ret
      exact ⟨ret_bool G.out.symm, B1.out⟩
  · have hi' : i = false := by simpa using hi
    subst hi'
    have G : Hid (hasV a n s = false) := F.out
    clear hi
    go_wp2
    go_ret
    exact ⟨ret_bool G.out.symm, B1.out⟩

end Go.Proofs.YtihggkmjalofiaaGreatDoor

/- Vectors: one patch more. -/
namespace Go.Proofs.YtihggkmjalofiaaGreatDoor
open Go.RowKit

theorem results_row_tmp {P : Program} {fn : Func} {p u : Tmp} {ty : TypeId} (h : fn.results = #[.cell p ty, .tmp u]) (tmps : Array Value) (w : World) (g : Nat) (t : TypeId) (cs : Array Value) (D : TypeDesc)
    (hp : tmps.getD p undef = .pointer (some ⟨g, 0, none⟩)) (hg : Blk w g t cs) (hu : P.underlying ty = some D) (hd : (match D with | .struct _ | .array _ _ => true | _ => false) = true) (hi : (P.info? ty).map (·.size) = some cs.size) :
    (results fn tmps).run P w = .ok (.tuple #[.agg cs, tmps.getD u undef]) w := by
  rw [results_cell_tmp h, hp]
  unfold Blk at hg
  simp only [asAddr, Sem.run_pure, Result.andThen_ok, run_loadVar_row w g t ty cs (0, 0) D hg hu hd hi]

def putOk (a : List Int) (n : Nat) (s : Int) : Bool := !(decide (n = 0) && decide (s = 0)) && (decide ((nextV a n).1 = n) && decide ((nextV a n).2 = s))
def putV (a : List Int) (n : Nat) (s : Int) : List Int := if putOk a n s = true then a.set (n - 1) s else a
theorem putOk_iff {a : List Int} {n : Nat} {s : Int} (h : putOk a n s = true) : inV n = true ∧ ofV a n < 60000 ∧ s = ofV a n + 1 := by
  unfold putOk at h
  simp at h
  obtain ⟨h1, h2, h3⟩ := h
  unfold nextV at h2 h3
  split at h2
  · rename_i hc
    rw [if_pos hc] at h3
    exact ⟨hc.1, hc.2, h3.symm⟩
  · rename_i hc
    rw [if_neg hc] at h3
    exfalso
    have : n = 0 := by simp at h2; omega
    rcases h1 with h1 | h1
    · exact h1 this
    · exact h1 (by simp at h3; omega)
theorem putV_ok {a : List Int} (ha : VecOk a) (n : Nat) (s : Int) : VecOk (putV a n s) := by
  unfold putV
  split
  · rename_i h
    obtain ⟨h1, h2, h3⟩ := putOk_iff h
    have := ofV_bd ha n
    refine ⟨by rw [List.length_set]; exact ha.len, fun m hm => ?_⟩
    rcases List.mem_or_eq_of_mem_set hm with h4 | rfl
    · exact ha.bd m h4
    · omega
  · exact ha

set_option maxRecDepth 100000 in
set_option maxHeartbeats 2000000 in
theorem put_any (a : List Int) (ha : VecOk a) (n : Nat) (hn : n < 256) (s : Int) (hs : 0 ≤ s ∧ s < 65536) (w : World) :
    Calls Tryz.prog 66 #[.agg (vecA a), .agg #[.int .u8 n, .int .u16 s]] w (RetB w (.tuple #[.agg (vecA (putV a n s)), .bool (putOk a n s)])) := by
  have HN := Lib.hid (fun w0 => next_any a ha n hn w0)
  have hs1 : Hid ((vecA a).size = 64) := by rw [Hid, vecA_size]; exact ha.len
  have hs2 : Hid ((vecA vec0).size = 64) := by rw [Hid, vecA_size]; simp [vec0]
  have h1 := Lib.hid (vecA_one a)
  have K1 : Hid (Blk (((w.alloc (.cells (vecA a) 75)).alloc (.cells #[.int .u8 n, .int .u16 s] 27)).alloc (.cells (vecA vec0) 75)) w.heap.size 75 (vecA a)) := ((Blk.new _ _ _).alloc _).alloc _
  have K2 : Hid (Blk (((w.alloc (.cells (vecA a) 75)).alloc (.cells #[.int .u8 n, .int .u16 s] 27)).alloc (.cells (vecA vec0) 75)) (w.heap.size + 1) 27 #[.int .u8 n, .int .u16 s]) := (Blk.newAt (by simp) _ _).alloc _
  have K3 : Hid (Blk (((w.alloc (.cells (vecA a) 75)).alloc (.cells #[.int .u8 n, .int .u16 s] 27)).alloc (.cells (vecA vec0) 75)) (w.heap.size + 1 + 1) 75 (vecA vec0)) := Blk.newAt (by simp) _ _
  have B0 : Hid (Below w.heap.size w (((w.alloc (.cells (vecA a) 75)).alloc (.cells #[.int .u8 n, .int .u16 s] 27)).alloc (.cells (vecA vec0) 75))) :=
    (((Below.refl _ _).alloc (Nat.le_refl _) _).alloc (by simp) _).alloc (by simp; omega) _
  have PO : Hid (putOk a n s = (!(decide (n = 0) && decide (s = 0)) && (decide ((nextV a n).1 = n) && decide ((nextV a n).2 = s)))) := rfl
  have PV : Hid (putV a n s = if putOk a n s = true then a.set (n - 1) s else a) := rfl
  have PI : Hid (putOk a n s = true → inV n = true ∧ ofV a n < 60000 ∧ s = ofV a n + 1) := putOk_iff
  have PT := Lib.hid (vecA_set a (n - 1) s)
  have SS : Hid ((vecA (a.set (n - 1) s)).size = 64) := by rw [Hid, vecA_size, List.length_set]; exact ha.len
  have S1 := Lib.hid (vecA_one (a.set (n - 1) s))
  have hget := Lib.hid (vecA_get a (n - 1))
  have hlen := Lib.hid ha.len
  have B00 := Lib.hid (ofV_bd ha n)
  clear ha
  generalize nextV a n = xy at *
  obtain ⟨x, y⟩ := xy
  go_enter Tryz.func66, Tryz.ntmps66
  go_wp2_with (refine wpList_alloced (alloc64 _) ?_)
  generalize (((w.alloc (.cells (vecA a) 75)).alloc (.cells #[.int .u8 n, .int .u16 s] 27)).alloc (.cells (vecA vec0) 75)) = w0 at *
  have q0 : ∀ z : Ext w0, z.w.cell? ⟨w.heap.size + 1, 0, none⟩ = some (.int .u8 n) := fun z => (K2.out.ext z.h).cell 0
  have q1 : ∀ z : Ext w0, z.w.cell? ⟨w.heap.size + 1, 1, none⟩ = some (.int .u16 s) := fun z => (K2.out.ext z.h).cell 1
  have CS : (n = 0 ∧ s = 0 ∧ Hid (putOk a n s = false)) ∨ (¬ s = 0 ∧ ¬ x = n ∧ Hid (putOk a n s = false)) ∨ (¬ s = 0 ∧ x = n ∧ ¬ y = s ∧ Hid (putOk a n s = false)) ∨ (¬ n = 0 ∧ ¬ x = n ∧ Hid (putOk a n s = false)) ∨ (¬ n = 0 ∧ x = n ∧ ¬ y = s ∧ Hid (putOk a n s = false)) ∨ (¬ s = 0 ∧ x = n ∧ y = s ∧ Hid (putOk a n s = true)) := by
    by_cases e3 : x = n
    · by_cases e4 : y = s
      · by_cases e2 : s = 0
        · by_cases e1 : n = 0
          · exact .inl ⟨e1, e2, by rw [Hid, PO.out]; simp [e1, e2]⟩
          · exfalso
            have h := PI.out (by rw [PO.out]; simp [e1, e3, e4])
            have := B00.out.1
            omega
        · exact .inr (.inr (.inr (.inr (.inr ⟨e2, e3, e4, by rw [Hid, PO.out]; simp [e2, e3, e4]⟩))))
      · by_cases e2 : s = 0
        · by_cases e1 : n = 0
          · exact .inl ⟨e1, e2, by rw [Hid, PO.out]; simp [e1, e2]⟩
          · exact .inr (.inr (.inr (.inr (.inl ⟨e1, e3, e4, by rw [Hid, PO.out]; simp [e4]⟩))))
        · exact .inr (.inr (.inl ⟨e2, e3, e4, by rw [Hid, PO.out]; simp [e4]⟩))
    · by_cases e2 : s = 0
      · by_cases e1 : n = 0
        · exact .inl ⟨e1, e2, by rw [Hid, PO.out]; simp [e1, e2]⟩
        · exact .inr (.inr (.inr (.inl ⟨e1, e3, by rw [Hid, PO.out]; simp [e3]⟩)))
      · exact .inr (.inl ⟨e2, e3, by rw [Hid, PO.out]; simp [e3]⟩)
  clear PO
  rcases CS with ⟨rfl, rfl, P⟩ | ⟨e2, e3, P⟩ | ⟨e2, rfl, e4, P⟩ | ⟨e1, e3, P⟩ | ⟨e1, rfl, e4, P⟩ | ⟨e2, rfl, rfl, P⟩
  case inr.inr.inr.inr.inr =>
    have PV' := Lib.hid (PV.out.trans (if_pos P.out))
    have h := PI.out P.out
    have hn1 : 1 ≤ n ∧ n ≤ 64 := by have := h.1; unfold inV at this; simpa using this
    clear PV PI h
    obtain ⟨n1, n2⟩ := hn1
    go_wp2_with fail
    refine wp_region_ext mixed (by kernel_rfl) ?_
    repeat (first
      | (refine wpQuiet_load_row K1.out under64 rfl (by rw [hs1.out]; exact info64) rfl rfl ?_; simp only [List.set_cons_succ, List.set_cons_zero])
      | go_big_quiet_step ((go_at_call 144; exact ext_call (HN.out _))))
    refine wpQuiet_nil ?_
    rintro _ ⟨z, rfl⟩
    have B1 := Lib.hid (B0.out.trans (z.h.mono B0.out.size))
    have L1 := Lib.hid (K1.out.ext z.h)
    have L3 := Lib.hid (K3.out.ext z.h)
    have p0 := q0 z
    have p1 := q1 z
    clear q0 q1
    generalize z.w = w1 at *
    obtain ⟨k, hk⟩ : ∃ k, n - 1 = k := ⟨_, rfl⟩
    have ek : (n : Int) - 1 = (k : Int) := by omega
    rw [hk] at PT SS S1 hget PV'
    have c1 := L1.out.cell k
    rw [hget.out (by rw [hlen.out]; omega)] at c1
    have f1 := L1.out.fr k
    have k1 : (k : Int) < 64 := by omega
    have k0 : (0 : Int) ≤ (k : Int) := by omega
    have m1 := L1.out.set_ k (.int .u16 y)
    rw [PT.out] at m1
    have M1 := Lib.hid m1
    clear m1
    clear hk
    have L4 := Lib.hid (L3.out.far (p := ⟨w.heap.size, k, none⟩) (by show w.heap.size + 1 + 1 ≠ w.heap.size; omega) (.int .u16 y))
    have B2 := Lib.hid (B1.out.setCell (p := ⟨w.heap.size, k, none⟩) (Nat.le_refl _) (.int .u16 y))
    clear L1 L3 B1
    go_wp2_with (first
      | (refine wpList_load_row rfl 75 _ (by rfl) w.heap.size (by rfl) _ _ _ _ M1.out under64 rfl (by rw [SS.out]; exact info64) ?_)
      | (refine wpList_store_row rfl 75 _ _ (by rfl) (w.heap.size + 1 + 1) _ (by rfl) (by rfl) _ _ L4.out (by rw [SS.out]; exact info64) (by rw [SS.out, hs2.out]) S1.out ?_))
    refine bodyPost_ret (results_row_tmp rfl _ _ (w.heap.size + 1 + 1) _ (vecA (a.set k y)) _ rfl (L4.out.row _) under64 rfl (by rw [SS.out]; exact info64)) rfl ?_
    refine ⟨?_, below_setRow B2.out (by omega) _⟩
    rw [P.out, PV'.out]
    rfl
  all_goals
    rw [P.out] at PV
    have PV' := Lib.hid (PV.out.trans (if_neg (by simp)))
    clear PV PI
    go_wp2_with fail
    refine wp_region_ext mixed (by kernel_rfl) ?_
    repeat (first
      | (refine wpQuiet_load_row K1.out under64 rfl (by rw [hs1.out]; exact info64) rfl rfl ?_; simp only [List.set_cons_succ, List.set_cons_zero])
      | go_big_quiet_step ((go_at_call 144; exact ext_call (HN.out _))))
    refine wpQuiet_nil ?_
    rintro _ ⟨z, rfl⟩
    have B1 := Lib.hid (B0.out.trans (z.h.mono B0.out.size))
    have L1 := Lib.hid (K1.out.ext z.h)
    have L3 := Lib.hid (K3.out.ext z.h)
    clear q0 q1
    generalize z.w = w1 at *
    go_wp2_with (first
      | (refine wpList_load_row rfl 75 _ (by rfl) w.heap.size (by rfl) _ _ _ _ L1.out under64 rfl (by rw [hs1.out]; exact info64) ?_)
      | (refine wpList_store_row rfl 75 _ _ (by rfl) (w.heap.size + 1 + 1) _ (by rfl) (by rfl) _ _ L3.out (by rw [hs1.out]; exact info64) (by rw [hs1.out, hs2.out]) h1.out ?_))
    refine bodyPost_ret (results_row_tmp rfl _ _ (w.heap.size + 1 + 1) _ (vecA a) _ rfl (L3.out.row _) under64 rfl (by rw [hs1.out]; exact info64)) rfl ?_
    refine ⟨?_, below_setRow B1.out (by omega) _⟩
    rw [P.out, PV'.out]
    rfl
end Go.Proofs.YtihggkmjalofiaaGreatDoor

/- THE PATCHES ARE THE VECTOR: plain laws. -/
namespace Go.Proofs.YtihggkmjalofiaaGreatDoor
open Go.RowKit

theorem set_getD {a : List Int} {k j : Nat} {v : Int} (hk : k < a.length) : (a.set k v).getD j 0 = if j = k then v else a.getD j 0 := by
  rw [List.getD_eq_getElem?_getD, List.getD_eq_getElem?_getD, List.getElem?_set]
  by_cases h : k = j
  · subst h; rw [if_pos rfl, if_pos rfl, if_pos hk]; rfl
  · rw [if_neg h, if_neg (Ne.symm h)]
theorem ofV_set {a : List Int} (ha : VecOk a) {n : Nat} (hi : inV n = true) (v : Int) : ofV (a.set (n - 1) v) n = v := by
  have h' : 1 ≤ n ∧ n ≤ 64 := by unfold inV at hi; simpa using hi
  unfold ofV
  rw [if_pos hi, set_getD (by rw [ha.len]; omega), if_pos rfl]
theorem hasV_next {a : List Int} (ha : VecOk a) {n : Nat} (hi : inV n = true) (s : Int) (hs : s ≠ ofV a n + 1) : hasV (a.set (n - 1) (ofV a n + 1)) n s = hasV a n s := by
  unfold hasV
  rw [ofV_set ha hi, Bool.eq_iff_iff]
  simp [hi]; omega
theorem hasV_new {a : List Int} (ha : VecOk a) {n : Nat} (hi : inV n = true) : hasV (a.set (n - 1) (ofV a n + 1)) n (ofV a n + 1) = true ∧ hasV a n (ofV a n + 1) = false := by
  have := ofV_bd ha n
  unfold hasV
  rw [ofV_set ha hi]
  exact ⟨by simp [hi]; omega, by simp [hi]; omega⟩
end Go.Proofs.YtihggkmjalofiaaGreatDoor
