/- Vectors: one patch more. -/
import Derived.Test.YtceapefjdiphpaaVecd
import Derived.Test.YtceapefjdiphpaaTail
import Derived.Laws.ResultCell
namespace Go.Proofs.Ytceapefjdiphpaa
open Go.RowKit

theorem results_row_tmp {P : Program} {fn : Func} {p u : Tmp} {ty : TypeId} (h : fn.results = #[.cell p ty, .tmp u]) (tmps : Array Value) (w : World) (g : Nat) (t : TypeId) (cs : Array Value) (D : TypeDesc)
    (hp : tmps.getD p undef = .pointer (some ⟨g, 0, none⟩)) (hg : Blk w g t cs) (hu : P.underlying ty = some D) (hd : (match D with | .struct _ | .array _ _ => true | _ => false) = true) (hi : (P.info? ty).map (·.size) = some cs.size) :
    (results fn tmps).run P w = .ok (.tuple #[.agg cs, tmps.getD u undef]) w := by
  rw [results_cell_tmp h, hp]
  unfold Blk at hg
  simp only [asAddr, Sem.run_pure, Result.andThen_ok, run_loadVar_row w g t ty cs (0, 0) D hg hu hd hi]

def putOk (a : List Int) (n : Nat) (s : Int) : Bool := !(decide (n = 0) && decide (s = 0)) && (decide ((nextV a n).1 = n) && decide ((nextV a n).2 = s))
def putV (a : List Int) (n : Nat) (s : Int) : List Int := if putOk a n s = true then a.set (n - 1) s else a
theorem putOk_iff {a : List Int} {n : Nat} {s : Int} (h : putOk a n s = true) : inV n = true ∧ ofV a n < 60000 ∧ s = ofV a n + 1 := by
  unfold putOk at h
  simp at h
  obtain ⟨h1, h2, h3⟩ := h
  unfold nextV at h2 h3
  split at h2
  · rename_i hc
    rw [if_pos hc] at h3
    exact ⟨hc.1, hc.2, h3.symm⟩
  · rename_i hc
    rw [if_neg hc] at h3
    exfalso
    have : n = 0 := by simp at h2; omega
    rcases h1 with h1 | h1
    · exact h1 this
    · exact h1 (by simp at h3; omega)
theorem putV_ok {a : List Int} (ha : VecOk a) (n : Nat) (s : Int) : VecOk (putV a n s) := by
  unfold putV
  split
  · rename_i h
    obtain ⟨h1, h2, h3⟩ := putOk_iff h
    have := ofV_bd ha n
    refine ⟨by rw [List.length_set]; exact ha.len, fun m hm => ?_⟩
    rcases List.mem_or_eq_of_mem_set hm with h4 | rfl
    · exact ha.bd m h4
    · omega
  · exact ha

set_option maxRecDepth 100000 in
set_option maxHeartbeats 2000000 in
theorem put_any (a : List Int) (ha : VecOk a) (n : Nat) (hn : n < 256) (s : Int) (hs : 0 ≤ s ∧ s < 65536) (w : World) :
    Calls Try.prog 29 #[.agg (vecA a), .agg #[.int .u8 n, .int .u16 s]] w (RetB w (.tuple #[.agg (vecA (putV a n s)), .bool (putOk a n s)])) := by
  have HN := Lib.hid (fun w0 => next_any a ha n hn w0)
  have hs1 : Hid ((vecA a).size = 64) := by rw [Hid, vecA_size]; exact ha.len
  have hs2 : Hid ((vecA vec0).size = 64) := by rw [Hid, vecA_size]; simp [vec0]
  have h1 := Lib.hid (vecA_one a)
  have K1 : Hid (Blk (((w.alloc (.cells (vecA a) 24)).alloc (.cells #[.int .u8 n, .int .u16 s] 38)).alloc (.cells (vecA vec0) 24)) w.heap.size 24 (vecA a)) := ((Blk.new _ _ _).alloc _).alloc _
  have K2 : Hid (Blk (((w.alloc (.cells (vecA a) 24)).alloc (.cells #[.int .u8 n, .int .u16 s] 38)).alloc (.cells (vecA vec0) 24)) (w.heap.size + 1) 38 #[.int .u8 n, .int .u16 s]) := (Blk.newAt (by simp) _ _).alloc _
  have K3 : Hid (Blk (((w.alloc (.cells (vecA a) 24)).alloc (.cells #[.int .u8 n, .int .u16 s] 38)).alloc (.cells (vecA vec0) 24)) (w.heap.size + 1 + 1) 24 (vecA vec0)) := Blk.newAt (by simp) _ _
  have B0 : Hid (Below w.heap.size w (((w.alloc (.cells (vecA a) 24)).alloc (.cells #[.int .u8 n, .int .u16 s] 38)).alloc (.cells (vecA vec0) 24))) :=
    (((Below.refl _ _).alloc (Nat.le_refl _) _).alloc (by simp) _).alloc (by simp; omega) _
  have PO : Hid (putOk a n s = (!(decide (n = 0) && decide (s = 0)) && (decide ((nextV a n).1 = n) && decide ((nextV a n).2 = s)))) := rfl
  have PV : Hid (putV a n s = if putOk a n s = true then a.set (n - 1) s else a) := rfl
  have PI : Hid (putOk a n s = true → inV n = true ∧ ofV a n < 60000 ∧ s = ofV a n + 1) := putOk_iff
  have PT := Lib.hid (vecA_set a (n - 1) s)
  have SS : Hid ((vecA (a.set (n - 1) s)).size = 64) := by rw [Hid, vecA_size, List.length_set]; exact ha.len
  have S1 := Lib.hid (vecA_one (a.set (n - 1) s))
  have hget := Lib.hid (vecA_get a (n - 1))
  have hlen := Lib.hid ha.len
  have B00 := Lib.hid (ofV_bd ha n)
  clear ha
  generalize nextV a n = xy at *
  obtain ⟨x, y⟩ := xy
  go_enter Try.func29, Try.ntmps29
  go_wp2_with (refine wpList_alloced (alloc64 _) ?_)
  generalize (((w.alloc (.cells (vecA a) 24)).alloc (.cells #[.int .u8 n, .int .u16 s] 38)).alloc (.cells (vecA vec0) 24)) = w0 at *
  have q0 : ∀ z : Ext w0, z.w.cell? ⟨w.heap.size + 1, 0, none⟩ = some (.int .u8 n) := fun z => (K2.out.ext z.h).cell 0
  have q1 : ∀ z : Ext w0, z.w.cell? ⟨w.heap.size + 1, 1, none⟩ = some (.int .u16 s) := fun z => (K2.out.ext z.h).cell 1
  have CS : (n = 0 ∧ s = 0 ∧ Hid (putOk a n s = false)) ∨ (¬ s = 0 ∧ ¬ x = n ∧ Hid (putOk a n s = false)) ∨ (¬ s = 0 ∧ x = n ∧ ¬ y = s ∧ Hid (putOk a n s = false)) ∨ (¬ n = 0 ∧ ¬ x = n ∧ Hid (putOk a n s = false)) ∨ (¬ n = 0 ∧ x = n ∧ ¬ y = s ∧ Hid (putOk a n s = false)) ∨ (¬ s = 0 ∧ x = n ∧ y = s ∧ Hid (putOk a n s = true)) := by
    by_cases e3 : x = n
    · by_cases e4 : y = s
      · by_cases e2 : s = 0
        · by_cases e1 : n = 0
          · exact .inl ⟨e1, e2, by rw [Hid, PO.out]; simp [e1, e2]⟩
          · exfalso
            have h := PI.out (by rw [PO.out]; simp [e1, e3, e4])
            have := B00.out.1
            omega
        · exact .inr (.inr (.inr (.inr (.inr ⟨e2, e3, e4, by rw [Hid, PO.out]; simp [e2, e3, e4]⟩))))
      · by_cases e2 : s = 0
        · by_cases e1 : n = 0
          · exact .inl ⟨e1, e2, by rw [Hid, PO.out]; simp [e1, e2]⟩
          · exact .inr (.inr (.inr (.inr (.inl ⟨e1, e3, e4, by rw [Hid, PO.out]; simp [e4]⟩))))
        · exact .inr (.inr (.inl ⟨e2, e3, e4, by rw [Hid, PO.out]; simp [e4]⟩))
    · by_cases e2 : s = 0
      · by_cases e1 : n = 0
        · exact .inl ⟨e1, e2, by rw [Hid, PO.out]; simp [e1, e2]⟩
        · exact .inr (.inr (.inr (.inl ⟨e1, e3, by rw [Hid, PO.out]; simp [e3]⟩)))
      · exact .inr (.inl ⟨e2, e3, by rw [Hid, PO.out]; simp [e3]⟩)
  clear PO
  rcases CS with ⟨rfl, rfl, P⟩ | ⟨e2, e3, P⟩ | ⟨e2, rfl, e4, P⟩ | ⟨e1, e3, P⟩ | ⟨e1, rfl, e4, P⟩ | ⟨e2, rfl, rfl, P⟩
  case inr.inr.inr.inr.inr =>
    have PV' := Lib.hid (PV.out.trans (if_pos P.out))
    have h := PI.out P.out
    have hn1 : 1 ≤ n ∧ n ≤ 64 := by have := h.1; unfold inV at this; simpa using this
    clear PV PI h
    obtain ⟨n1, n2⟩ := hn1
    go_wp2_with fail
    refine wp_region_ext mixed (by kernel_rfl) ?_
    repeat (first
      | (refine wpQuiet_load_row K1.out under64 rfl (by rw [hs1.out]; exact info64) rfl rfl ?_; simp only [List.set_cons_succ, List.set_cons_zero])
      | go_big_quiet_step ((go_at_call 28; exact ext_call (HN.out _))))
    refine wpQuiet_nil ?_
    rintro _ ⟨z, rfl⟩
    have B1 := Lib.hid (B0.out.trans (z.h.mono B0.out.size))
    have L1 := Lib.hid (K1.out.ext z.h)
    have L3 := Lib.hid (K3.out.ext z.h)
    have p0 := q0 z
    have p1 := q1 z
    clear q0 q1
    generalize z.w = w1 at *
    obtain ⟨k, hk⟩ : ∃ k, n - 1 = k := ⟨_, rfl⟩
    have ek : (n : Int) - 1 = (k : Int) := by omega
    rw [hk] at PT SS S1 hget PV'
    have c1 := L1.out.cell k
    rw [hget.out (by rw [hlen.out]; omega)] at c1
    have f1 := L1.out.fr k
    have k1 : (k : Int) < 64 := by omega
    have k0 : (0 : Int) ≤ (k : Int) := by omega
    have m1 := L1.out.set_ k (.int .u16 y)
    rw [PT.out] at m1
    have M1 := Lib.hid m1
    clear m1
    clear hk
    have L4 := Lib.hid (L3.out.far (p := ⟨w.heap.size, k, none⟩) (by show w.heap.size + 1 + 1 ≠ w.heap.size; omega) (.int .u16 y))
    have B2 := Lib.hid (B1.out.setCell (p := ⟨w.heap.size, k, none⟩) (Nat.le_refl _) (.int .u16 y))
    clear L1 L3 B1
    go_wp2_with (first
      | (refine wpList_load_row rfl 24 _ (by rfl) w.heap.size (by rfl) _ _ _ _ M1.out under64 rfl (by rw [SS.out]; exact info64) ?_)
      | (refine wpList_store_row rfl 24 _ _ (by rfl) (w.heap.size + 1 + 1) _ (by rfl) (by rfl) _ _ L4.out (by rw [SS.out]; exact info64) (by rw [SS.out, hs2.out]) S1.out ?_))
    refine bodyPost_ret (results_row_tmp rfl _ _ (w.heap.size + 1 + 1) _ (vecA (a.set k y)) _ rfl (L4.out.row _) under64 rfl (by rw [SS.out]; exact info64)) rfl ?_
    refine ⟨?_, below_setRow B2.out (by omega) _⟩
    rw [P.out, PV'.out]
    rfl
  all_goals
    rw [P.out] at PV
    have PV' := Lib.hid (PV.out.trans (if_neg (by simp)))
    clear PV PI
    go_wp2_with fail
    refine wp_region_ext mixed (by kernel_rfl) ?_
    repeat (first
      | (refine wpQuiet_load_row K1.out under64 rfl (by rw [hs1.out]; exact info64) rfl rfl ?_; simp only [List.set_cons_succ, List.set_cons_zero])
      | go_big_quiet_step ((go_at_call 28; exact ext_call (HN.out _))))
    refine wpQuiet_nil ?_
    rintro _ ⟨z, rfl⟩
    have B1 := Lib.hid (B0.out.trans (z.h.mono B0.out.size))
    have L1 := Lib.hid (K1.out.ext z.h)
    have L3 := Lib.hid (K3.out.ext z.h)
    clear q0 q1
    generalize z.w = w1 at *
    go_wp2_with (first
      | (refine wpList_load_row rfl 24 _ (by rfl) w.heap.size (by rfl) _ _ _ _ L1.out under64 rfl (by rw [hs1.out]; exact info64) ?_)
      | (refine wpList_store_row rfl 24 _ _ (by rfl) (w.heap.size + 1 + 1) _ (by rfl) (by rfl) _ _ L3.out (by rw [hs1.out]; exact info64) (by rw [hs1.out, hs2.out]) h1.out ?_))
    refine bodyPost_ret (results_row_tmp rfl _ _ (w.heap.size + 1 + 1) _ (vecA a) _ rfl (L3.out.row _) under64 rfl (by rw [hs1.out]; exact info64)) rfl ?_
    refine ⟨?_, below_setRow B1.out (by omega) _⟩
    rw [P.out, PV'.out]
    rfl
end Go.Proofs.Ytceapefjdiphpaa
