/- The chapter's example of an index: walked. -/
import Derived.Test.YtnhbbggpgieipaaGreatIdxg
import Derived.Test.YtnhbbggpgieipaaGreatSub
namespace Go.Proofs.YtnhbbggpgieipaaGreat
open Go.RowKit

def w31o : OpV := (1, vid0, vid0, ByteArray.empty)
def w31a : PatV := ((1, 1), [], [w31o])
def w31b : PatV := ((1, 2), [(1, 1)], [w31o])
def w31v : List Int := 1 :: List.replicate 63 0
theorem w31v_ok : VecOk w31v := ⟨by simp [w31v], fun n hn => by
  unfold w31v at hn
  rcases List.mem_cons.1 hn with rfl | hn
  · omega
  · have := List.eq_of_mem_replicate hn; omega⟩
theorem w31_e1 : idxE [] w31a = 0 ∧ idxL [] w31a = [w31a] := ⟨by kernel_rfl, by kernel_rfl⟩
theorem w31_e2 : idxE [w31a] w31b = 0 ∧ idxL [w31a] w31b = [w31a, w31b] := ⟨by kernel_rfl, by kernel_rfl⟩
theorem w31_e3 : idxE [w31a, w31b] w31b = 7 ∧ idxL [w31a, w31b] w31b = [w31a, w31b] := ⟨by kernel_rfl, by kernel_rfl⟩
theorem w31_l : lackP w31v [w31a, w31b] = [w31b] := by kernel_rfl
theorem w31_ops (w : World) : OpsAt (w.alloc (.cells (encO w31o).toArray 78)) (some ⟨w.heap.size, 0, none⟩) 1 [w31o] := by
  have := ops_new w [w31o] (by simp [OpV.ok, w31o, maxLen])
  simpa using this
theorem build_w31v (w : World) : (Instr.build 39 #[(0, .int .u16 1)]).run Tryz.prog w = .ok (.agg (vecA w31v)) w := by kernel_rfl
theorem buildA31 (b : Nat) (w : World) : (Instr.build 37 #[(0, .agg #[.int .u8 1, .int .u16 1]), (2, .slice (some ⟨b, 0, none⟩) 1 1)]).run Tryz.prog w = .ok (.agg (patC (1, 1) none 0 0 (some ⟨b, 0, none⟩) 1 1).toArray) w := by kernel_rfl
theorem buildB31 (b b' : Nat) (w : World) : (Instr.build 37 #[(0, .agg #[.int .u8 1, .int .u16 2]), (1, .slice (some ⟨b, 0, none⟩) 1 1), (2, .slice (some ⟨b', 0, none⟩) 1 1)]).run Tryz.prog w = .ok (.agg (patC (1, 2) (some ⟨b, 0, none⟩) 1 1 (some ⟨b', 0, none⟩) 1 1).toArray) w := by kernel_rfl
theorem buildO31 (w : World) : (Instr.build 78 #[(0, .int .u8 1)]).run Tryz.prog w = .ok (.agg (encO w31o).toArray) w := by kernel_rfl
theorem buildP11 (w : World) : (Instr.build 33 #[(0, .int .u8 1), (1, .int .u16 1)]).run Tryz.prog w = .ok (.agg #[.int .u8 1, .int .u16 1]) w := by kernel_rfl
theorem buildP12 (w : World) : (Instr.build 33 #[(0, .int .u8 1), (1, .int .u16 2)]).run Tryz.prog w = .ok (.agg #[.int .u8 1, .int .u16 2]) w := by kernel_rfl
/-- what stays in the last statement of the example -/
def CW (w : World) (g gb go hi b o : Nat) (r : List Value) (w' : World) : Prop :=
  (∃ F, IdxAt w' F g [w31a, w31b] ∧ ∀ k, F k → w.heap.size ≤ k ∧ (k < go ∨ hi ≤ k) ∧ k ≠ b) ∧ Blk w' gb 37 r.toArray ∧ PatIn w' (fun k => go ≤ k ∧ k < hi) r w31b ∧ w'.rangeAt b o (encP (1, 2)) ∧ Below w.heap.size w w' ∧ hi ≤ w'.heap.size
theorem cw_drew {w w' : World} {g gb go hi b o : Nat} {r : List Value} (h : CW w g gb go hi b o r w') : CW w g gb go hi b o r w'.drew := by
  obtain ⟨⟨F, h1, h2⟩, h3, h4, h5, h6, h7⟩ := h
  have bd : Below w'.heap.size w' w'.drew := (Below.refl _ _).drew
  exact ⟨⟨F, h1.ext bd, h2⟩, h3.ext bd, h4.ext bd, h5, h6.drew, h7⟩
theorem cw_len {w : World} {g gb go hi b o : Nat} {r : List Value} (z : Sub (CW w g gb go hi b o r)) : Calls Tryz.prog 31 #[.pointer (some ⟨g, 0, none⟩)] z.w fun e w' => e = .returned (.int .i64 2) ∧ CW w g gb go hi b o r w' := by
  obtain ⟨u, h⟩ := z
  obtain ⟨F, h1, h2⟩ := h.1
  exact (len31_any h1).mono fun e w' ⟨he, hw⟩ => ⟨he, hw ▸ h⟩
theorem cw_put {w : World} {g gb go hi b o : Nat} {r : List Value} (hgo : go ≤ gb) (hhi : gb < hi) (z : Sub (CW w g gb go hi b o r)) : Calls Tryz.prog 27 #[.pointer (some ⟨g, 0, none⟩), .agg r.toArray] z.w fun e w' => e = .returned (.int .i64 7) ∧ CW w g gb go hi b o r w' := by
  obtain ⟨u, h⟩ := z
  obtain ⟨⟨F, h1, h2⟩, h3, h4, h5, h6, h7⟩ := h
  refine (put31_any h1 (by decide) w31b r h4.at_ ⟨by decide, by decide⟩).mono ?_
  rintro e w' ⟨rfl, kp, F', h8, hF8⟩
  rw [w31_e3.2] at h8
  rw [w31_e3.1]
  have hbl : b < u.heap.size := by
    have c0 := h5 0 (.int .u8 1) rfl
    exact World.block_lt_of_cell? u ⟨b, o + 0, none⟩ c0
  have st := kp.stay (G := fun k => go ≤ k ∧ k < hi) fun k _ hk e => by have := (h2 k e).2.1; omega
  refine ⟨rfl, ⟨F', h8, fun k e => (hF8 k e).elim (h2 k) (fun e => ⟨Nat.le_trans h6.size e, .inr (Nat.le_trans h7 e), fun c => by have : u.heap.size ≤ k := e; omega⟩)⟩, h3.keep (st.2 gb h3.lt ⟨hgo, hhi⟩), h4.stay st, rangeAt_keep h5 fun j => World.cell?_of_block (a := ⟨b, j, none⟩) (kp.block b hbl fun e => (h2 b e).2.2 rfl), h6.trans (kp.below (fun k e => (h2 k e).1) h6.size), Nat.le_trans h7 kp.size⟩
end Go.Proofs.YtnhbbggpgieipaaGreat
