/- Texts of general use, one behind another. -/
import Derived.Test.YtihggkmjalofiaaGreatDoorPats
import Derived.Test.YtihggkmjalofiaaGreatDoorGen
import Derived.Test.YtihggkmjalofiaaGreatDoorOps
import Derived.Deep.RegionHeld3

/- Patches made: walked. -/
namespace Go.Proofs.YtihggkmjalofiaaGreatDoor
open Go.RowKit

def zeroPat : PatV := ((0, 0), [], [])
def makeV18 (id : PidV) (l : List OpV) : PatV := if patB (id, depsV id l, l) = true then (id, depsV id l, l) else zeroPat
def makeN18 (id : PidV) (l : List OpV) : Int := if patB (id, depsV id l, l) = true then 0 else 1
theorem allocPat (w : World) : (Instr.alloc 31 true (.tuple #[])).run Tryz.prog w = .ok (.pointer (some ⟨w.heap.size, 0, none⟩)) (w.alloc (.cells #[.int .u8 0, .int .u16 0, .slice none 0 0, .slice none 0 0] 31)) := by kernel_rfl
theorem buildPat (id : PidV) (A : Option Addr) (n c : Nat) (A' : Option Addr) (n' c' : Nat) (w : World) : (Instr.build 31 #[(0, .agg (encP id).toArray), (1, .slice A n c), (2, .slice A' n' c')]).run Tryz.prog w = .ok (.agg (patC id A n c A' n' c').toArray) w := by kernel_rfl
theorem buildZero (w : World) : (Instr.build 31 #[]).run Tryz.prog w = .ok (.agg #[.int .u8 0, .int .u16 0, .slice none 0 0, .slice none 0 0]) w := by kernel_rfl
theorem patC_one {id : PidV} {A : Option Addr} {n c : Nat} {A' : Option Addr} {n' c' : Nat} : (patC id A n c A' n' c').toArray.all (·.oneCell') = true := all_oneCell_toArray fun u hu => by
  simp only [patC, List.mem_cons, List.not_mem_nil, or_false] at hu
  rcases hu with rfl | rfl | rfl | rfl <;> rfl
theorem zeroC_one : (#[.int .u8 0, .int .u16 0, .slice none 0 0, .slice none 0 0] : Array Value).all (·.oneCell') = true := patC_one (id := (0, 0)) (A := none) (n := 0) (c := 0) (A' := none) (n' := 0) (c' := 0)
theorem depsV_le (id : PidV) (l : List OpV) : (depsV id l).length ≤ 1 + 2 * l.length := Nat.le_trans (setK_len _) (rawDeps_le id l)
theorem pat_at {w : World} {id : PidV} {l : List OpV} {A A' : Option Addr} {c c' n : Nat} (h1 : PidsAt w A (depsV id l).length (depsV id l)) (h2 : OpsAt w A' n l) (hn : n ≤ 300) : PatAt w (patC id A (depsV id l).length c A' n c') (id, depsV id l, l) := by
  have e := h2.len
  subst e
  exact ⟨⟨A, c, A', c', rfl, h1, h2⟩, by have := depsV_le id l; unfold maxLen; show (depsV id l).length ≤ _; omega, by unfold maxLen; show l.length ≤ _; omega⟩
end Go.Proofs.YtihggkmjalofiaaGreatDoor

/- A vertex' name; the chapter's example of patches: walked. -/
namespace Go.Proofs.YtihggkmjalofiaaGreatDoor
open Go.RowKit

def vid0 : VidV := ((0, 0), 0)
end Go.Proofs.YtihggkmjalofiaaGreatDoor

/- Patches that come in: as they lie. Whether any may be: the statement walked. -/
namespace Go.Proofs.YtihggkmjalofiaaGreatDoor
open Go.RowKit

abbrev shPid : List Sh := [.int .u8, .int .u16]
abbrev shOp : List Sh := [.int .u8, .int .u8, .int .u16, .int .u8, .int .u8, .int .u16, .int .u8, .str]
abbrev shPat : List Sh := [.int .u8, .int .u16, .sl shPid, .sl shOp]
theorem fin8_of {z : Int} (h : (Lit.int .u8 z).wf = true) : ∃ v : Fin 256, z = ((v.val : Nat) : Int) := by
  have := u8_of h
  exact ⟨⟨z.toNat, by omega⟩, by show z = ((z.toNat : Nat) : Int); omega⟩
theorem fin16_of {z : Int} (h : (Lit.int .u16 z).wf = true) : ∃ v : Fin 65536, z = ((v.val : Nat) : Int) := by
  have := u16_of h
  exact ⟨⟨z.toNat, by omega⟩, by show z = ((z.toNat : Nat) : Int); omega⟩
theorem pid_row {w : World} {B : Nat} {r : List Value} (h : Sh.oks w B shPid r) : ∃ x : PidV, r = encP x ∧ True := by
  match r, h with
  | [a, b], h =>
    simp only [Sh.oks, Sh.ok] at h
    obtain ⟨⟨x, rfl, hx⟩, ⟨y, rfl, hy⟩, _⟩ := h
    obtain ⟨x, rfl⟩ := fin8_of hx
    obtain ⟨y, rfl⟩ := fin16_of hy
    exact ⟨(x, y), rfl, trivial⟩
theorem op_row {w : World} {B : Nat} {r : List Value} (h : Sh.oks w B shOp r) : ∃ x : OpV, r = encO x ∧ OpV.ok x := by
  match r, h with
  | [a1, a2, a3, a4, a5, a6, a7, a8], h =>
    simp only [Sh.oks, Sh.ok] at h
    obtain ⟨⟨x1, rfl, h1⟩, ⟨x2, rfl, h2⟩, ⟨x3, rfl, h3⟩, ⟨x4, rfl, h4⟩, ⟨x5, rfl, h5⟩, ⟨x6, rfl, h6⟩, ⟨x7, rfl, h7⟩, ⟨s, rfl, h8⟩, _⟩ := h
    obtain ⟨x1, rfl⟩ := fin8_of h1
    obtain ⟨x2, rfl⟩ := fin8_of h2
    obtain ⟨x3, rfl⟩ := fin16_of h3
    obtain ⟨x4, rfl⟩ := fin8_of h4
    obtain ⟨x5, rfl⟩ := fin8_of h5
    obtain ⟨x6, rfl⟩ := fin16_of h6
    obtain ⟨x7, rfl⟩ := fin8_of h7
    exact ⟨(x1, ((x2, x3), x4), ((x5, x6), x7), s), rfl, h8⟩
theorem flatten_map {α : Type} (enc : α → List Value) (l : List α) : (l.map enc).flatten = l.flatMap enc := by rw [List.flatMap_def]
theorem pids_of {w : World} {A : Option Addr} {n : Nat} {rows : List (List Value)} (hl : rows.length = n) (ho : ∀ r ∈ rows, Sh.oks w w.heap.size shPid r) (hs : Sl w w.heap.size 2 A n rows.flatten) : ∃ l : List PidV, PidsAt w A n l := by
  obtain ⟨l, rfl, _⟩ := rows_map encP (fun _ => True) rows (fun r hr => pid_row (ho r hr))
  rw [flatten_map] at hs
  exact ⟨l, by simpa using hl, hs⟩
theorem ops_of {w : World} {A : Option Addr} {n : Nat} {rows : List (List Value)} (hl : rows.length = n) (ho : ∀ r ∈ rows, Sh.oks w w.heap.size shOp r) (hs : Sl w w.heap.size 8 A n rows.flatten) : ∃ l : List OpV, OpsAt w A n l := by
  obtain ⟨l, rfl, hok⟩ := rows_map encO OpV.ok rows (fun r hr => op_row (ho r hr))
  rw [flatten_map] at hs
  exact ⟨l, by simpa using hl, hs, hok⟩
theorem pat_of {w : World} {cs : List Value} (h : Sh.oks w w.heap.size shPat cs) : ∃ p : PatV, PatAt w cs p := by
  match cs, h with
  | [a, b, d, o], h =>
    simp only [Sh.oks, Sh.ok] at h
    obtain ⟨⟨x, rfl, hx⟩, ⟨y, rfl, hy⟩, ⟨A, n, c, r1, rfl, h1, h2, h3, h4, h5⟩, ⟨A', n', c', r2, rfl, k1, k2, k3, k4, k5⟩, _⟩ := h
    obtain ⟨x, rfl⟩ := fin8_of hx
    obtain ⟨y, rfl⟩ := fin16_of hy
    obtain ⟨ds, hd⟩ := pids_of h3 (fun r hr => by have := h4 r hr; simpa only [Sh.oks, Sh.ok] using this) h5
    obtain ⟨os, ho⟩ := ops_of k3 (fun r hr => by have := k4 r hr; simpa only [Sh.oks, Sh.ok] using this) k5
    have e1 := hd.len
    have e2 := ho.len
    subst e1 e2
    exact ⟨((x, y), ds, os), ⟨A, c, A', c', rfl, hd, ho⟩, Nat.le_trans h1 h2, Nat.le_trans k1 k2⟩

end Go.Proofs.YtihggkmjalofiaaGreatDoor

/- A patch copied: walked. -/
namespace Go.Proofs.YtihggkmjalofiaaGreatDoor
open Go.RowKit

theorem own_cellFar {w : World} {base g j : Nat} {e t : TypeId} {size n : Nat} {v u : Value} {xs : List Value} {cs : Array Value} (h : w.ownsRow base e size v n xs) (hg : Blk w g t cs) (hne : e ≠ t) : (w.setCell ⟨g, j, none⟩ u).ownsRow base e size v n xs := by
  obtain ⟨h1, h2⟩ := h
  refine ⟨h1, ?_⟩
  rcases h2 with h2 | ⟨b, cap, cur, rfl, hb, hh, r⟩
  · exact .inl h2
  · refine .inr ⟨b, cap, cur, rfl, hb, ?_, r⟩
    have : b ≠ g := by
      rintro rfl
      unfold Blk at hg
      rw [hh] at hg
      injection hg with hg
      injection hg with _ ht _
      exact hne ht
    exact (Below.heap_setCell w ⟨g, j, none⟩ u b this).trans hh
def CopyRet (w : World) (p : PatV) (e : Ending) (w' : World) : Prop := ∃ (A1 : Option Addr) (c1 : Nat) (A2 : Option Addr) (c2 : Nat), e = .returned (.agg (patC p.1 A1 p.2.1.length c1 A2 p.2.2.length c2).toArray) ∧
  w'.ownsRow w.heap.size 27 2 (.slice A1 p.2.1.length c1) p.2.1.length (p.2.1.flatMap encP) ∧ w'.ownsRow w.heap.size 122 8 (.slice A2 p.2.2.length c2) p.2.2.length (p.2.2.flatMap encO) ∧ Below w.heap.size w w'
theorem fieldPatD (g : Nat) (w : World) : (Instr.fieldAt 31 (.pointer (some ⟨g, 0, none⟩)) 1).run Tryz.prog w = .ok (.pointer (some ⟨g, 2, none⟩)) w := by simp [go_sem]
theorem fieldPatO (g : Nat) (w : World) : (Instr.fieldAt 31 (.pointer (some ⟨g, 0, none⟩)) 2).run Tryz.prog w = .ok (.pointer (some ⟨g, 3, none⟩)) w := by simp [go_sem]
theorem loadPids (b o : Nat) (w : World) (A : Option Addr) (n c : Nat) (h : w.cell? ⟨b, o, none⟩ = some (.slice A n c)) : (Instr.loadAt 28 (.pointer (some ⟨b, o, none⟩))).run Tryz.prog w = .ok (.slice A n c) w := by simp [go_sem, h]
theorem loadOps (b o : Nat) (w : World) (A : Option Addr) (n c : Nat) (h : w.cell? ⟨b, o, none⟩ = some (.slice A n c)) : (Instr.loadAt 29 (.pointer (some ⟨b, o, none⟩))).run Tryz.prog w = .ok (.slice A n c) w := by simp [go_sem, h]
theorem storePids (b o : Nat) (w : World) (A : Option Addr) (n c : Nat) {u : Value} (h : w.cell? ⟨b, o, none⟩ = some u) (hf : w.frozen? ⟨b, o, none⟩ = false) : (Instr.storeAt 28 (.pointer (some ⟨b, o, none⟩)) (.slice A n c)).run Tryz.prog w = .ok () (w.setCell ⟨b, o, none⟩ (.slice A n c)) := by simp [go_sem, h, hf]
theorem storeOps (b o : Nat) (w : World) (A : Option Addr) (n c : Nat) {u : Value} (h : w.cell? ⟨b, o, none⟩ = some u) (hf : w.frozen? ⟨b, o, none⟩ = false) : (Instr.storeAt 29 (.pointer (some ⟨b, o, none⟩)) (.slice A n c)).run Tryz.prog w = .ok () (w.setCell ⟨b, o, none⟩ (.slice A n c)) := by simp [go_sem, h, hf]
set_option maxRecDepth 100000 in
set_option maxHeartbeats 4000000 in
theorem copy18_any (p : PatV) (w : World) (cs : List Value) (hp : PatAt w cs p) (hn1 : p.2.1.length ≤ 100000) (hn2 : p.2.2.length ≤ 100000) : Calls Tryz.prog 97 #[.agg cs.toArray] w (CopyRet w p) := by
  obtain ⟨⟨A, c, A', c', rfl, P1, O1⟩, m1, m2⟩ := hp
  have K1 : Hid (Blk ((w.alloc (.cells (patC p.1 A p.2.1.length c A' p.2.2.length c').toArray 31)).alloc (.cells #[.int .u8 0, .int .u16 0, .slice none 0 0, .slice none 0 0] 31)) w.heap.size 31 (patC p.1 A p.2.1.length c A' p.2.2.length c').toArray) := (Blk.new _ _ _).alloc _
  have K2 : Hid (Blk ((w.alloc (.cells (patC p.1 A p.2.1.length c A' p.2.2.length c').toArray 31)).alloc (.cells #[.int .u8 0, .int .u16 0, .slice none 0 0, .slice none 0 0] 31)) (w.heap.size + 1) 31 #[.int .u8 0, .int .u16 0, .slice none 0 0, .slice none 0 0]) := Blk.newAt (by simp) _ _
  have B0 : Hid (Below w.heap.size w ((w.alloc (.cells (patC p.1 A p.2.1.length c A' p.2.2.length c').toArray 31)).alloc (.cells #[.int .u8 0, .int .u16 0, .slice none 0 0, .slice none 0 0] 31))) := ((Below.refl _ _).alloc (Nat.le_refl _) _).alloc (by simp) _
  have hcD : ∀ args u, (callFunc 187 args).run Tryz.prog u = .ok (.enter 187 args) u := enters_of Tryz.func187 (by kernel_rfl) rfl
  have hcC : ∀ args u, (callFunc 188 args).run Tryz.prog u = .ok (.enter 188 args) u := enters_of Tryz.func188 (by kernel_rfl) rfl
  go_enter Tryz.func97, Tryz.ntmps97
  go_upto_region 1 with fail
  generalize ((w.alloc (.cells (patC p.1 A p.2.1.length c A' p.2.2.length c').toArray 31)).alloc (.cells #[.int .u8 0, .int .u16 0, .slice none 0 0, .slice none 0 0] 31)) = w2 at *
  have P1 := Lib.hid (P1.ext B0.out)
  have O1 := Lib.hid (O1.ext B0.out)
  have HD := Lib.hid (fun (u : World) (hu : Below w2.heap.size w2 u) => cloneP p.2.1 u A p.2.1.length c hn1 (P1.out.ext hu))
  have HC := Lib.hid (fun (u : World) (hu : Below w2.heap.size w2 u) => cloneO p.2.2 u A' p.2.2.length c' hn2 (O1.out.ext hu))
  have hgr : Hid (w.heap.size ≤ w.heap.size + 1) := Nat.le_succ _
  have hne : Hid (w.heap.size ≠ w.heap.size + 1) := by show ¬ _; omega
  clear P1 O1
  generalize w.heap.size + 1 = gr at *
  obtain ⟨g1, hg⟩ : ∃ g1, g1 = w.heap.size := ⟨_, rfl⟩
  have hg1 : Hid (w.heap.size ≤ g1) := by rw [Hid, hg]; exact Nat.le_refl _
  rw [← hg] at K1 hne ⊢
  clear hg
  go_cut [4] (fun _ wx => ∃ (A1 : Option Addr) (c1 : Nat) (A2 : Option Addr) (c2 : Nat), True ∧ Blk wx g1 31 (patC p.1 A1 p.2.1.length c1 A2 p.2.2.length c2).toArray ∧ Blk wx gr 31 #[.int .u8 0, .int .u16 0, .slice none 0 0, .slice none 0 0] ∧ wx.ownsRow w2.heap.size 27 2 (.slice A1 p.2.1.length c1) p.2.1.length (p.2.1.flatMap encP) ∧ wx.ownsRow w2.heap.size 122 8 (.slice A2 p.2.2.length c2) p.2.2.length (p.2.2.flatMap encO) ∧ Below w.heap.size w wx)
  case first =>
    refine wp_region_Z (S := fun w' => Below w2.heap.size w2 w') (Z := [7, 9]) mixedS ?_
    have B3 : Hid (Below w2.heap.size w2 w2.drew) := (Below.refl _ _).drew
    have KD : Hid (Blk w2.drew g1 31 (patC p.1 A p.2.1.length c A' p.2.2.length c').toArray) := K1.out
    have KE : Hid (Blk w2.drew gr 31 #[.int .u8 0, .int .u16 0, .slice none 0 0, .slice none 0 0]) := K2.out
    generalize w2.drew = w3 at *
    simp only [List.size_toArray, List.length_cons, List.length_nil]
    refine zV (i := 0) rfl (by kernel_rfl) (by kernel_rfl) (by kernel_rfl) (by kernel_rfl) (by kernel_rfl) (fun _ _ _ h => h) rfl (fun w' _ => exField rfl (fieldPatD g1 w')) B3.out ?_
    simp only [Act.put, List.setIfInBounds_toArray, List.set_cons_zero, List.set_cons_succ]
    refine zV (i := 1) rfl (by kernel_rfl) (by kernel_rfl) (by kernel_rfl) (by kernel_rfl) (by kernel_rfl) (fun _ _ _ h => h) rfl (fun w' h => exLoad rfl (loadPids g1 2 w' _ _ _ ((K1.out.ext h).cell 2))) B3.out ?_
    simp only [Act.put, List.setIfInBounds_toArray, List.set_cons_zero, List.set_cons_succ]
    refine zV (i := 3) rfl (by kernel_rfl) (by kernel_rfl) (by kernel_rfl) (by kernel_rfl) (by kernel_rfl) (fun _ _ _ h => h) rfl (fun w' _ => exField rfl (fieldPatO g1 w')) B3.out ?_
    simp only [Act.put, List.setIfInBounds_toArray, List.set_cons_zero, List.set_cons_succ]
    refine zV (i := 4) rfl (by kernel_rfl) (by kernel_rfl) (by kernel_rfl) (by kernel_rfl) (by kernel_rfl) (fun _ _ _ h => h) rfl (fun w' h => exLoad rfl (loadOps g1 3 w' _ _ _ ((K1.out.ext h).cell 3))) B3.out ?_
    simp only [Act.put, List.setIfInBounds_toArray, List.set_cons_zero, List.set_cons_succ]
    refine wpAnyZ_all (rs := [2]) (by kernel_rfl) (by simp) ?_
    intro i hi
    simp only [List.mem_cons, List.not_mem_nil, or_false] at hi
    subst hi
    refine wpOp_of rfl rfl (wp_called (args := #[.slice A p.2.1.length c]) hcD (by simp only [List.map_toArray, List.map_cons, List.map_nil]; rfl) (HD.out w3 B3.out) ?_)
    rintro e w_3 ⟨v1, rfl, o_1, h_2⟩
    have o_1 := Lib.hid (own_mono' o_1 B3.out.size)
    obtain ⟨A1, c1, rfl, hc1, _⟩ := Sl.of_own o_1.out
    refine ⟨_, rfl, fun _ => ext_trans B3.out h_2, ?_⟩
    simp only [Act.put, List.setIfInBounds_toArray, List.set_cons_zero, List.set_cons_succ]
    have B_4 := Lib.hid (ext_trans B3.out h_2)
    have F_5 := Lib.hid (KD.out.ext h_2)
    have F_6 := Lib.hid (KE.out.ext h_2)
    clear B3 KD KE
    clear h_2
    refine zLight (i := 6) rfl (by kernel_rfl) (by kernel_rfl) (by kernel_rfl) (by kernel_rfl) (fun _ _ _ h => h) rfl (fun w' => exField rfl (fieldPatD g1 w')) (fun _ => B_4.out) ?_
    simp only [Act.put, List.setIfInBounds_toArray, List.set_cons_zero, List.set_cons_succ]
    refine wpAnyZ_all (rs := [5]) (by kernel_rfl) (by simp) ?_
    intro i hi
    simp only [List.mem_cons, List.not_mem_nil, or_false] at hi
    subst hi
    refine wpOp_of rfl rfl (wp_called (args := #[.slice A' p.2.2.length c']) hcC (by simp only [List.map_toArray, List.map_cons, List.map_nil]; rfl) (HC.out w_3 B_4.out) ?_)
    rintro e w_9 ⟨v2, rfl, o_7, h_8⟩
    have o_7 := Lib.hid (own_mono' o_7 B_4.out.size)
    obtain ⟨A2, c2, rfl, hc2, _⟩ := Sl.of_own o_7.out
    refine ⟨_, rfl, fun _ => ext_trans B_4.out h_8, ?_⟩
    simp only [Act.put, List.setIfInBounds_toArray, List.set_cons_zero, List.set_cons_succ]
    have B_10 := Lib.hid (ext_trans B_4.out h_8)
    have F_11 := Lib.hid (F_5.out.ext h_8)
    have F_12 := Lib.hid (F_6.out.ext h_8)
    have F_13 := Lib.hid (own_ext o_1.out h_8)
    clear B_4 F_5 F_6 o_1
    clear h_8
    refine wpAnyZ_all (rs := [7]) (by kernel_rfl) (by simp) ?_
    intro i hi
    simp only [List.mem_cons, List.not_mem_nil, or_false] at hi
    subst hi
    refine wpOp_of rfl rfl (wpStored1 rfl rfl (storePids g1 2 w_9 _ _ _ (F_11.out.cell 2) (F_11.out.fr 2)) ?_)
    refine ⟨noZ (by kernel_rfl), ?_⟩
    have O1 := Lib.hid (own_cellFar (j := 2) (u := (.slice A1 p.2.1.length c1)) F_13.out F_11.out (by decide))
    have O2 := Lib.hid (own_cellFar (j := 2) (u := (.slice A1 p.2.1.length c1)) o_7.out F_11.out (by decide))
    have KK := Lib.hid (F_11.out.set_ 2 (.slice A1 p.2.1.length c1))
    have GG := Lib.hid (F_12.out.far (p := ⟨g1, 2, none⟩) hne.out.symm (.slice A1 p.2.1.length c1))
    have BB : Hid (Below w.heap.size w (w_9.setCell ⟨g1, 2, none⟩ (.slice A1 p.2.1.length c1))) := below_setCell (B0.out.trans (B_10.out.mono B0.out.size)) hg1.out
    generalize w_9.setCell ⟨g1, 2, none⟩ (.slice A1 p.2.1.length c1) = w8 at *
    refine zLight (i := 8) rfl (by kernel_rfl) (by kernel_rfl) (by kernel_rfl) (by kernel_rfl) (fun _ _ _ h => h) rfl (fun w' => exField rfl (fieldPatO g1 w')) (noZ (by kernel_rfl)) ?_
    simp only [Act.put, List.setIfInBounds_toArray, List.set_cons_zero, List.set_cons_succ]
    refine wpAnyZ_all (rs := [9]) (by kernel_rfl) (by simp) ?_
    intro i hi
    simp only [List.mem_cons, List.not_mem_nil, or_false] at hi
    subst hi
    refine wpOp_of rfl rfl (wpStored1 rfl rfl (storeOps g1 3 w8 _ _ _ (KK.out.cell 3) (KK.out.fr 3)) ?_)
    refine ⟨noZ (by kernel_rfl), ?_⟩
    have O1 := Lib.hid (own_cellFar (j := 3) (u := (.slice A2 p.2.2.length c2)) O1.out KK.out (by decide))
    have O2 := Lib.hid (own_cellFar (j := 3) (u := (.slice A2 p.2.2.length c2)) O2.out KK.out (by decide))
    have KK : Hid (Blk (w8.setCell ⟨g1, 3, none⟩ (.slice A2 p.2.2.length c2)) g1 31 (patC p.1 A1 p.2.1.length c1 A2 p.2.2.length c2).toArray) := KK.out.set_ 3 (.slice A2 p.2.2.length c2)
    have GG := Lib.hid (GG.out.far (p := ⟨g1, 3, none⟩) hne.out.symm (.slice A2 p.2.2.length c2))
    have BB : Hid (Below w.heap.size w (w8.setCell ⟨g1, 3, none⟩ (.slice A2 p.2.2.length c2))) := below_setCell BB.out hg1.out
    generalize w8.setCell ⟨g1, 3, none⟩ (.slice A2 p.2.2.length c2) = w9 at *
    refine wpAnyZ_done (by kernel_rfl) ?_ _
    go_wp2_with fail
    go_meet
    case rel => exact ⟨A1, c1, A2, c2, trivial, KK.out, GG.out, O1.out, O2.out, BB.out⟩
  case rest =>
    obtain ⟨A1, c1, A2, c2, _, kk, kz, o1, o2, bb⟩ := hcut
    obtain ⟨wx, rfl⟩ : ∃ wx, wx = wc := ⟨_, rfl⟩
    have KK := Lib.hid kk
    have KZ := Lib.hid kz
    have O1 := Lib.hid (own_rowFar (cs' := (patC p.1 A1 p.2.1.length c1 A2 p.2.2.length c2).toArray) (own_mono' o1 B0.out.size) kz (by decide))
    have O2 := Lib.hid (own_rowFar (cs' := (patC p.1 A1 p.2.1.length c1 A2 p.2.2.length c2).toArray) (own_mono' o2 B0.out.size) kz (by decide))
    have BB := Lib.hid (below_setRow bb hgr.out (patC p.1 A1 p.2.1.length c1 A2 p.2.2.length c2).toArray)
    have KR := Lib.hid (kz.row (patC p.1 A1 p.2.1.length c1 A2 p.2.2.length c2).toArray)
    have HI : Hid ((Tryz.prog.info? 31).map (·.size) = some ((patC p.1 A1 p.2.1.length c1 A2 p.2.2.length c2).toArray : Array Value).size) := infoPat
    clear kk kz o1 o2 bb HD HC K1 K2 hcD hcC B0
    go_wp2_with (first
      | (refine wpList_load_row rfl 31 _ (by rfl) g1 (by rfl) _ _ _ _ KK.out underPat rfl infoPat ?_)
      | (refine wpList_store_row rfl 31 _ _ (by rfl) gr (patC p.1 A1 p.2.1.length c1 A2 p.2.2.length c2).toArray (by rfl) (by rfl) _ _ KZ.out HI.out rfl patC_one ?_))
    generalize (wx.setRow gr (patC p.1 A1 p.2.1.length c1 A2 p.2.2.length c2).toArray) = w5 at *
    have z0 := KR.out.cell 0
    have z1 := KR.out.cell 1
    have z2 := KR.out.cell 2
    have z3 := KR.out.cell 3
    simp [patC] at z0 z1 z2 z3
    refine bodyPost_ret (v := .agg (patC p.1 A1 p.2.1.length c1 A2 p.2.2.length c2).toArray) ?_ rfl ?_
    · simp [results, Tryz.results97, go_sem, z0, z1, z2, z3, patC]
    exact ⟨A1, c1, A2, c2, rfl, O1.out, O2.out, BB.out⟩
end Go.Proofs.YtihggkmjalofiaaGreatDoor

/- Patches made: the statement walked. -/
namespace Go.Proofs.YtihggkmjalofiaaGreatDoor
open Go.RowKit

end Go.Proofs.YtihggkmjalofiaaGreatDoor

/- WHAT A PATCH NAMES COMES AHEAD: the plain law, and the statement walked. -/
namespace Go.Proofs.YtihggkmjalofiaaGreatDoor
open Go.RowKit

theorem patB_parts {p : PatV} (h : patB p = true) : p.2.1 = depsV p.1 p.2.2 ∧ 1 ≤ p.2.2.length ∧ p.2.2.length ≤ 200 ∧ ∀ (k : Nat) o, p.2.2[k]? = some o → oneR p k o = true := by
  rw [patB_head, Bool.and_eq_true] at h
  have h1 := h.1
  unfold headB at h1
  simp only [Bool.and_eq_true, decide_eq_true_eq] at h1
  exact ⟨h1.2.2.2, h1.2.1, h1.2.2.1, fun k o ho => onesB_get h.2 (List.getElem?_eq_some_iff.1 ho).1 ho⟩
theorem oneR_parts {p : PatV} {k : Nat} {o : OpV} (h : oneR p k o = true) : goodO p.1 k o = true ∧ ∀ v ∈ refsO o, isLater p.1 v = false := by
  unfold oneR at h
  simp only [Bool.and_eq_true, Bool.not_eq_true'] at h
  exact ⟨h.1, fun v hv => by
    have := List.any_eq_false.1 h.2.1 v hv
    simpa using this⟩
end Go.Proofs.YtihggkmjalofiaaGreatDoor
