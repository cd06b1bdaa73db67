/- Vectors: an author's number, the patch that comes next, whether a patch is had; the chapter's example. -/
import Derived.Test.YtceapefjdiphpaaVecc
namespace Go.Proofs.Ytceapefjdiphpaa
open Go.RowKit

def inV (n : Nat) : Bool := decide (1 ≤ n ∧ n ≤ 64)
def ofV (a : List Int) (n : Nat) : Int := if inV n = true then a.getD (n - 1) 0 else 0
theorem ofV_bd {a : List Int} (ha : VecOk a) (n : Nat) : 0 ≤ ofV a n ∧ ofV a n ≤ 65535 := by
  unfold ofV inV
  split
  · rename_i h; have := of_decide_eq_true h; exact ha.get (n - 1) (by omega)
  · omega

set_option maxRecDepth 100000 in
set_option maxHeartbeats 1000000 in
theorem number_any (a : List Int) (ha : VecOk a) (n : Nat) (hn : n < 256) (w : World) : Calls Try.prog 52 #[.agg (vecA a), .int .u8 n] w (RetB w (.tuple #[.int .u16 (ofV a n), .bool (inV n)])) := by
  have K1 : Hid (Blk (w.alloc (.cells (vecA a) 24)) w.heap.size 24 (vecA a)) := Blk.new _ _ _
  have B0 : Hid (Below w.heap.size w (w.alloc (.cells (vecA a) 24))) := (Below.refl _ _).alloc (Nat.le_refl _) _
  by_cases h1 : 1 ≤ n
  · by_cases h2 : n ≤ 64
    · have hi : inV n = true := decide_eq_true ⟨h1, h2⟩
      have F : Hid (ofV a n = a.getD (n - 1) 0) := if_pos hi
      have G := Lib.hid hi
      have c1 := K1.out.cell (n - 1)
      rw [vecA_get _ _ (by rw [ha.len]; omega)] at c1
      obtain ⟨m, rfl⟩ : ∃ m, n = m + 1 := ⟨n - 1, by omega⟩
      rw [Nat.add_sub_cancel] at c1 F
      have hb0 : ((m : Nat) : Int) < 64 := by omega
      have hb1 : (0 : Int) ≤ (m : Int) := by omega
      clear ha h1 h2 hi
      generalize a.getD m 0 = x at *
      go_enter Try.func52, Try.ntmps52
      go_wp2
      go_ret2
      refine ⟨?_, B0.out⟩
      rw [F.out, G.out]; rfl
    · have hi : inV n = false := decide_eq_false (by omega)
      have F : Hid (ofV a n = 0) := by unfold ofV; rw [hi]; rfl
      have G := Lib.hid hi
      have hd : (64 : Int) < (n : Int) := by omega
      clear ha hi
      go_enter Try.func52, Try.ntmps52
      go_wp2
      go_ret2
      refine ⟨?_, B0.out⟩
      rw [F.out, G.out]; rfl
  · have hi : inV n = false := decide_eq_false (by omega)
    have F : Hid (ofV a n = 0) := by unfold ofV; rw [hi]; rfl
    have G := Lib.hid hi
    have hd : (n : Int) < 1 := by omega
    clear ha hi h1
    go_enter Try.func52, Try.ntmps52
    go_wp2
    go_ret2
    refine ⟨?_, B0.out⟩
    rw [F.out, G.out]; rfl

def nextV (a : List Int) (n : Nat) : Int × Int := if inV n = true ∧ ofV a n < 60000 then ((n : Int), ofV a n + 1) else (0, 0)

set_option maxRecDepth 100000 in
set_option maxHeartbeats 1000000 in
theorem next_any (a : List Int) (ha : VecOk a) (n : Nat) (hn : n < 256) (w : World) : Calls Try.prog 28 #[.agg (vecA a), .int .u8 n] w (RetB w (.agg #[.int .u8 (nextV a n).1, .int .u16 (nextV a n).2])) := by
  have HN := Lib.hid (fun w0 => number_any a ha n hn w0)
  have hs1 : Hid ((vecA a).size = 64) := by rw [Hid, vecA_size]; exact ha.len
  obtain ⟨x0, x1⟩ := ofV_bd ha n
  have F : Hid (nextV a n = if inV n = true ∧ ofV a n < 60000 then ((n : Int), ofV a n + 1) else (0, 0)) := rfl
  clear ha
  generalize ofV a n = x at *
  generalize inV n = i at *
  have K1 : Hid (Blk ((w.alloc (.cells (vecA a) 24)).alloc (.cells #[.int .u8 0, .int .u16 0] 38)) w.heap.size 24 (vecA a)) := (Blk.new _ _ _).alloc _
  have B0 : Hid (Below w.heap.size w ((w.alloc (.cells (vecA a) 24)).alloc (.cells #[.int .u8 0, .int .u16 0] 38))) := ((Below.refl _ _).alloc (Nat.le_refl _) _).alloc (by simp) _
  have K2 : Hid (Blk ((w.alloc (.cells (vecA a) 24)).alloc (.cells #[.int .u8 0, .int .u16 0] 38)) (w.heap.size + 1) 38 #[.int .u8 0, .int .u16 0]) := Blk.newAt (by simp) _ _
  go_enter Try.func28, Try.ntmps28
  go_wp2_with (refine wpList_load_row rfl 24 _ (by rfl) w.heap.size (by rfl) _ _ _ _ K1.out under64 rfl (by rw [hs1.out]; exact info64) ?_)
  generalize ((w.alloc (.cells (vecA a) 24)).alloc (.cells #[.int .u8 0, .int .u16 0] 38)) = w0 at *
  refine (HN.out _).mono ?_
  rintro e w1 ⟨rfl, b1⟩
  have K3 := Lib.hid (K2.out.ext b1)
  have B1 := Lib.hid (B0.out.trans (b1.mono B0.out.size))
  have p0 : w1.cell? ⟨w.heap.size + 1, 0, none⟩ = some (.int .u8 0) := K3.out.cell 0
  have p1 : w1.cell? ⟨w.heap.size + 1, 1, none⟩ = some (.int .u16 0) := K3.out.cell 1
  have f0 := K3.out.fr 0
  have f1 := K3.out.fr 1
  clear b1 HN
  by_cases hi : i = true
  · subst hi
    by_cases hx : x < 60000
    · have G : Hid (nextV a n = ((n : Int), x + 1)) := by rw [Hid, F.out, if_pos ⟨rfl, hx⟩]
      have hd : decide ((60000 : Int) ≤ x) = false := decide_eq_false (by omega)
      go_wp2
      refine bodyPost_ret (results_cell_row rfl _ _ (w.heap.size + 1) _ #[.int .u8 n, .int .u16 (x + 1)] _ _ rfl ((K3.out.set_ 0 (.int .u8 n)).set_ 1 (.int .u16 (x + 1))) Try.underlying38 rfl (by kernel_rfl)) rfl ?_
      rw [G.out]
      exact ⟨rfl, (B1.out.setCell (p := ⟨w.heap.size + 1, 0, none⟩) (by simp) _).setCell (p := ⟨w.heap.size + 1, 1, none⟩) (by simp) _⟩
    · have G : Hid (nextV a n = (0, 0)) := by rw [Hid, F.out, if_neg (by omega)]
      have hd : decide ((60000 : Int) ≤ x) = true := decide_eq_true (by omega)
      go_wp2
      refine bodyPost_ret (results_cell_row rfl _ _ (w.heap.size + 1) _ #[.int .u8 0, .int .u16 0] _ _ rfl ((K3.out.set_ 0 (.int .u8 0)).set_ 1 (.int .u16 0)) Try.underlying38 rfl (by kernel_rfl)) rfl ?_
      rw [G.out]
      exact ⟨rfl, (B1.out.setCell (p := ⟨w.heap.size + 1, 0, none⟩) (by simp) _).setCell (p := ⟨w.heap.size + 1, 1, none⟩) (by simp) _⟩
  · have hi' : i = false := by simpa using hi
    subst hi'
    have G : Hid (nextV a n = (0, 0)) := by rw [Hid, F.out, if_neg (by simp)]
    clear hi
    go_wp2
    refine bodyPost_ret (results_cell_row rfl _ _ (w.heap.size + 1) _ #[.int .u8 0, .int .u16 0] _ _ rfl ((K3.out.set_ 0 (.int .u8 0)).set_ 1 (.int .u16 0)) Try.underlying38 rfl (by kernel_rfl)) rfl ?_
    rw [G.out]
    exact ⟨rfl, (B1.out.setCell (p := ⟨w.heap.size + 1, 0, none⟩) (by simp) _).setCell (p := ⟨w.heap.size + 1, 1, none⟩) (by simp) _⟩

/-- whether a vector has a patch -/
def hasV (a : List Int) (n : Nat) (s : Int) : Bool := inV n && decide (1 ≤ s ∧ s ≤ ofV a n)

set_option maxRecDepth 100000 in
set_option maxHeartbeats 1000000 in
theorem has_any (a : List Int) (ha : VecOk a) (n : Nat) (hn : n < 256) (s : Int) (w : World) : Calls Try.prog 27 #[.agg (vecA a), .agg #[.int .u8 n, .int .u16 s]] w (RetB w (.bool (hasV a n s))) := by
  have HN := Lib.hid (fun w0 => number_any a ha n hn w0)
  have hs1 : Hid ((vecA a).size = 64) := by rw [Hid, vecA_size]; exact ha.len
  have F : Hid (hasV a n s = (inV n && decide (1 ≤ s ∧ s ≤ ofV a n))) := rfl
  clear ha
  generalize ofV a n = x at *
  generalize inV n = i at *
  have K1 : Hid (Blk ((w.alloc (.cells (vecA a) 24)).alloc (.cells #[.int .u8 n, .int .u16 s] 38)) w.heap.size 24 (vecA a)) := (Blk.new _ _ _).alloc _
  have B0 : Hid (Below w.heap.size w ((w.alloc (.cells (vecA a) 24)).alloc (.cells #[.int .u8 n, .int .u16 s] 38))) := ((Below.refl _ _).alloc (Nat.le_refl _) _).alloc (by simp) _
  have K2 : Hid (Blk ((w.alloc (.cells (vecA a) 24)).alloc (.cells #[.int .u8 n, .int .u16 s] 38)) (w.heap.size + 1) 38 #[.int .u8 n, .int .u16 s]) := Blk.newAt (by simp) _ _
  go_enter Try.func27, Try.ntmps27
  go_wp2_with (refine wpList_load_row rfl 24 _ (by rfl) w.heap.size (by rfl) _ _ _ _ K1.out under64 rfl (by rw [hs1.out]; exact info64) ?_)
  generalize ((w.alloc (.cells (vecA a) 24)).alloc (.cells #[.int .u8 n, .int .u16 s] 38)) = w0 at *
  refine (HN.out _).mono ?_
  rintro e w1 ⟨rfl, b1⟩
  have K3 := Lib.hid (K2.out.ext b1)
  have B1 := Lib.hid (B0.out.trans (b1.mono B0.out.size))
  have p1 : w1.cell? ⟨w.heap.size + 1, 1, none⟩ = some (.int .u16 s) := K3.out.cell 1
  clear b1 HN
  by_cases hi : i = true
  · subst hi
    by_cases h1 : 1 ≤ s
    · by_cases h2 : s ≤ x
      · have G : Hid (hasV a n s = true) := by rw [Hid, F.out, decide_eq_true ⟨h1, h2⟩]; rfl
        go_wp2
        go_ret
        exact ⟨ret_bool (by rw [G.out]), B1.out⟩
      · have G : Hid (hasV a n s = false) := by rw [Hid, F.out, decide_eq_false (by omega)]; rfl
        have hd : decide (s ≤ x) = false := decide_eq_false h2
        go_wp2
        go_ret
        exact ⟨ret_bool G.out.symm, B1.out⟩
    · have G : Hid (hasV a n s = false) := by rw [Hid, F.out, decide_eq_false (by omega)]; rfl
      have hd : decide (1 ≤ s) = false := decide_eq_false h1
      go_wp2
      go_ret
      exact ⟨ret_bool G.out.symm, B1.out⟩
  · have hi' : i = false := by simpa using hi
    subst hi'
    have G : Hid (hasV a n s = false) := F.out
    clear hi
    go_wp2
    go_ret
    exact ⟨ret_bool G.out.symm, B1.out⟩

theorem build_v2 (w : World) : (Instr.build 24 #[(0, .int .u16 2)]).run Try.prog w = .ok (.agg (vecA (2 :: List.replicate 63 0))) w := by kernel_rfl
theorem v2_ok : VecOk (2 :: List.replicate 63 0) := ⟨by simp, fun n hn => by
  rcases List.mem_cons.1 hn with rfl | h
  · omega
  · rw [List.eq_of_mem_replicate h]; omega⟩

set_option maxRecDepth 100000 in
set_option maxHeartbeats 1000000 in
theorem works12 (w : World) : Calls Try.prog 13 #[] w (RetB w (.bool true)) := by
  have HV := Lib.hid v2_ok
  have e1 : allTo (2 :: List.replicate 63 0) 64 = [(1, 1), (1, 2)] := by decide
  have e2 : nextV (2 :: List.replicate 63 0) 1 = (1, 3) := by decide
  have e3 : hasV (2 :: List.replicate 63 0) 1 1 = true := by decide
  have e4 : totV (2 :: List.replicate 63 0) = 2 := by decide
  have HA := Lib.hid (fun w0 => all_any (2 :: List.replicate 63 0) v2_ok w0)
  have HN := Lib.hid (fun w0 => next_any (2 :: List.replicate 63 0) v2_ok 1 (by omega) w0)
  have HH := Lib.hid (fun w0 => has_any (2 :: List.replicate 63 0) v2_ok 1 (by omega) 1 w0)
  have HT := Lib.hid (fun w0 => total_any (2 :: List.replicate 63 0) v2_ok w0)
  rw [e1] at HA
  rw [e2] at HN
  rw [e3] at HH
  rw [e4] at HT
  have hs1 : Hid ((vecA (2 :: List.replicate 63 0)).size = 64) := by rw [Hid, vecA_size]; simp
  have h1 := Lib.hid (vecA_one (2 :: List.replicate 63 0))
  clear e1 e2 e3 e4
  have HB2 := Lib.hid build_v2
  generalize hvv : (2 :: List.replicate 63 (0 : Int)) = vv at *
  clear hvv
  have K1 : Hid (Blk ((w.alloc (.cells (vecA vec0) 24)).setRow w.heap.size (vecA vv)) w.heap.size 24 (vecA vv)) := (Blk.new _ _ _).row _
  have B0 : Hid (Below w.heap.size w ((w.alloc (.cells (vecA vec0) 24)).setRow w.heap.size (vecA vv))) := below_setRow ((Below.refl _ _).alloc (Nat.le_refl _) _) (Nat.le_refl _) _
  go_enter Try.func13, Try.ntmps13
  go_wp2_with (first
    | (refine wpList_built (HB2.out _) ?hvs ?hk; case hvs => (simp only [List.map_toArray, List.map_cons, List.map_nil]; exact rfl))
    | (refine wpList_alloced (alloc64 _) ?_)
    | (refine wpList_store_row rfl 24 _ _ (by rfl) w.heap.size _ (by rfl) (by rfl) _ _ (heap_alloc_new _ _) (by rw [hs1.out]; exact info64) (by rw [hs1.out, vecA_size]; simp [vec0]) h1.out ?_)
    | (refine wpList_load_row rfl 24 _ (by rfl) w.heap.size (by rfl) _ _ _ _ K1.out under64 rfl (by rw [hs1.out]; exact info64) ?_))
  generalize ((w.alloc (.cells (vecA vec0) 24)).setRow w.heap.size (vecA vv)) = w0 at *
  refine (HA.out _).mono ?_
  rintro e w1 ⟨A, c, rfl, hc, hsl, b1⟩
  have K2 := Lib.hid (K1.out.ext b1)
  have B1 := Lib.hid (B0.out.trans (b1.mono B0.out.size))
  obtain ⟨sb, so, rfl, hsb, hcell⟩ := hsl.2 (by decide)
  have q0 : ∀ z : Ext w1, z.w.cell? ⟨sb, so, none⟩ = some (.int .u8 1) := fun z => by rw [z.h.cell (p := ⟨sb, so, none⟩) hsb]; exact hcell 0 (by decide)
  have q1 : ∀ z : Ext w1, z.w.cell? ⟨sb, so + 1, none⟩ = some (.int .u16 1) := fun z => by rw [z.h.cell (p := ⟨sb, so + 1, none⟩) hsb]; exact hcell 1 (by decide)
  have q3 : ∀ z : Ext w1, z.w.cell? ⟨sb, so + 2 + 1, none⟩ = some (.int .u16 2) := fun z => by rw [z.h.cell (p := ⟨sb, so + 2 + 1, none⟩) hsb]; exact hcell 3 (by decide)
  clear hsl hcell b1 K1 B0
  go_wp2_with fail
  refine wp_region_ext mixed (by kernel_rfl) ?_
  repeat (first
    | (refine wpQuiet_load_row K2.out under64 rfl (by rw [hs1.out]; exact info64) rfl rfl ?_; simp only [List.set_cons_succ, List.set_cons_zero])
    | go_big_quiet_step ((first | (go_at_call 28; exact ext_call (HN.out _)) | (go_at_call 27; exact ext_call (HH.out _)) | (go_at_call 30; exact ext_call (HT.out _)))))
  refine wpQuiet_nil ?_
  rintro _ ⟨z, rfl⟩
  go_wp2
  go_ret
  exact ⟨rfl, B1.out.trans (z.h.mono B1.out.size)⟩
end Go.Proofs.Ytceapefjdiphpaa
