/- Patches that come in: as they lie. Whether any may be: the statement walked. -/
import Derived.Test.YtmfdggolnfoniaaPatu
namespace Go.Proofs.Ytmfdggolnfoniaa
open Go.RowKit

abbrev shPid : List Sh := [.int .u8, .int .u16]
abbrev shOp : List Sh := [.int .u8, .int .u8, .int .u16, .int .u8, .int .u8, .int .u16, .int .u8, .str]
abbrev shPat : List Sh := [.int .u8, .int .u16, .sl shPid, .sl shOp]
theorem fin8_of {z : Int} (h : (Lit.int .u8 z).wf = true) : ∃ v : Fin 256, z = ((v.val : Nat) : Int) := by
  have := u8_of h
  exact ⟨⟨z.toNat, by omega⟩, by show z = ((z.toNat : Nat) : Int); omega⟩
theorem fin16_of {z : Int} (h : (Lit.int .u16 z).wf = true) : ∃ v : Fin 65536, z = ((v.val : Nat) : Int) := by
  have := u16_of h
  exact ⟨⟨z.toNat, by omega⟩, by show z = ((z.toNat : Nat) : Int); omega⟩
theorem pid_row {w : World} {B : Nat} {r : List Value} (h : Sh.oks w B shPid r) : ∃ x : PidV, r = encP x ∧ True := by
  match r, h with
  | [a, b], h =>
    simp only [Sh.oks, Sh.ok] at h
    obtain ⟨⟨x, rfl, hx⟩, ⟨y, rfl, hy⟩, _⟩ := h
    obtain ⟨x, rfl⟩ := fin8_of hx
    obtain ⟨y, rfl⟩ := fin16_of hy
    exact ⟨(x, y), rfl, trivial⟩
theorem op_row {w : World} {B : Nat} {r : List Value} (h : Sh.oks w B shOp r) : ∃ x : OpV, r = encO x ∧ OpV.ok x := by
  match r, h with
  | [a1, a2, a3, a4, a5, a6, a7, a8], h =>
    simp only [Sh.oks, Sh.ok] at h
    obtain ⟨⟨x1, rfl, h1⟩, ⟨x2, rfl, h2⟩, ⟨x3, rfl, h3⟩, ⟨x4, rfl, h4⟩, ⟨x5, rfl, h5⟩, ⟨x6, rfl, h6⟩, ⟨x7, rfl, h7⟩, ⟨s, rfl, h8⟩, _⟩ := h
    obtain ⟨x1, rfl⟩ := fin8_of h1
    obtain ⟨x2, rfl⟩ := fin8_of h2
    obtain ⟨x3, rfl⟩ := fin16_of h3
    obtain ⟨x4, rfl⟩ := fin8_of h4
    obtain ⟨x5, rfl⟩ := fin8_of h5
    obtain ⟨x6, rfl⟩ := fin16_of h6
    obtain ⟨x7, rfl⟩ := fin8_of h7
    exact ⟨(x1, ((x2, x3), x4), ((x5, x6), x7), s), rfl, h8⟩
theorem flatten_map {α : Type} (enc : α → List Value) (l : List α) : (l.map enc).flatten = l.flatMap enc := by rw [List.flatMap_def]
theorem pids_of {w : World} {A : Option Addr} {n : Nat} {rows : List (List Value)} (hl : rows.length = n) (ho : ∀ r ∈ rows, Sh.oks w w.heap.size shPid r) (hs : Sl w w.heap.size 2 A n rows.flatten) : ∃ l : List PidV, PidsAt w A n l := by
  obtain ⟨l, rfl, _⟩ := rows_map encP (fun _ => True) rows (fun r hr => pid_row (ho r hr))
  rw [flatten_map] at hs
  exact ⟨l, by simpa using hl, hs⟩
theorem ops_of {w : World} {A : Option Addr} {n : Nat} {rows : List (List Value)} (hl : rows.length = n) (ho : ∀ r ∈ rows, Sh.oks w w.heap.size shOp r) (hs : Sl w w.heap.size 8 A n rows.flatten) : ∃ l : List OpV, OpsAt w A n l := by
  obtain ⟨l, rfl, hok⟩ := rows_map encO OpV.ok rows (fun r hr => op_row (ho r hr))
  rw [flatten_map] at hs
  exact ⟨l, by simpa using hl, hs, hok⟩
theorem pat_of {w : World} {cs : List Value} (h : Sh.oks w w.heap.size shPat cs) : ∃ p : PatV, PatAt w cs p := by
  match cs, h with
  | [a, b, d, o], h =>
    simp only [Sh.oks, Sh.ok] at h
    obtain ⟨⟨x, rfl, hx⟩, ⟨y, rfl, hy⟩, ⟨A, n, c, r1, rfl, h1, h2, h3, h4, h5⟩, ⟨A', n', c', r2, rfl, k1, k2, k3, k4, k5⟩, _⟩ := h
    obtain ⟨x, rfl⟩ := fin8_of hx
    obtain ⟨y, rfl⟩ := fin16_of hy
    obtain ⟨ds, hd⟩ := pids_of h3 (fun r hr => by have := h4 r hr; simpa only [Sh.oks, Sh.ok] using this) h5
    obtain ⟨os, ho⟩ := ops_of k3 (fun r hr => by have := k4 r hr; simpa only [Sh.oks, Sh.ok] using this) k5
    have e1 := hd.len
    have e2 := ho.len
    subst e1 e2
    exact ⟨((x, y), ds, os), ⟨A, c, A', c', rfl, hd, ho⟩, Nat.le_trans h1 h2, Nat.le_trans k1 k2⟩

set_option maxRecDepth 100000 in
set_option maxHeartbeats 4000000 in
theorem patchGood_walk (w : World) (p : PatV) (cs : List Value) (hp : PatAt w cs p) : Calls Try.prog 4 #[.agg cs.toArray] w (RetB w (.bool true)) := by
  have HPAT := Lib.hid hp
  obtain ⟨⟨A, c, A', c', rfl, P1, O1⟩, m1, m2⟩ := hp
  have K1 : Hid (Blk (w.alloc (.cells (patC p.1 A p.2.1.length c A' p.2.2.length c').toArray 37)) w.heap.size 37 (patC p.1 A p.2.1.length c A' p.2.2.length c').toArray) := Blk.new _ _ _
  have B0 : Hid (Below w.heap.size w (w.alloc (.cells (patC p.1 A p.2.1.length c A' p.2.2.length c').toArray 37))) := below_new _ _
  clear P1 O1
  go_enter Try.func4, Try.ntmps4
  go_upto_region 1 with fail
  generalize hw2 : (w.alloc (.cells (patC p.1 A p.2.1.length c A' p.2.2.length c').toArray 37)) = w2 at *
  clear hw2
  have PA := Lib.hid (HPAT.out.ext B0.out)
  generalize hg1 : w.heap.size = g1 at K1 ⊢
  clear HPAT hg1
  have HF := Lib.hid (few18_any p w2 _ PA.out)
  cases hf : fewP p
  · rw [fewN_false hf] at HF
    go_wp2_with (refine wpList_load_row rfl 37 _ (by rfl) g1 (by rfl) _ _ _ _ K1.out underPat rfl infoPat ?_)
    refine HF.out.mono ?_
    rintro e w3 ⟨rfl, b3⟩
    have B3 := Lib.hid (B0.out.trans (b3.mono B0.out.size))
    clear b3 HF
    go_wp2_with fail
    refine (works18 _).mono ?_
    rintro e w4 ⟨rfl, b4⟩
    have B4 := Lib.hid (B3.out.trans (b4.mono B3.out.size))
    clear b4
    go_wp2
    go_ret
    exact ⟨rfl, B4.out⟩
  · rw [fewN_true hf] at HF
    go_wp2_with (refine wpList_load_row rfl 37 _ (by rfl) g1 (by rfl) _ _ _ _ K1.out underPat rfl infoPat ?_)
    refine HF.out.mono ?_
    rintro e w3 ⟨rfl, b3⟩
    have B3 := Lib.hid (B0.out.trans (b3.mono B0.out.size))
    have PA := Lib.hid (PA.out.ext b3)
    have K1 := Lib.hid (K1.out.ext b3)
    clear b3 HF hf
    have hgl : g1 < w3.heap.size := K1.out.lt
    have a0 : w3.cell? ⟨g1, 0, none⟩ = some (.int .u8 ((p.1.1.val : Nat) : Int)) := K1.out.cell 0
    have a1 : w3.cell? ⟨g1, 1, none⟩ = some (.int .u16 ((p.1.2.val : Nat) : Int)) := K1.out.cell 1
    have a2 : w3.cell? ⟨g1, 2, none⟩ = some (.slice A p.2.1.length c) := K1.out.cell 2
    have a3 : w3.cell? ⟨g1, 3, none⟩ = some (.slice A' p.2.2.length c') := K1.out.cell 3
    have c0 := ext_cell a0 hgl
    have c1 := ext_cell a1 hgl
    have c2 := ext_cell a2 hgl
    have c3 := ext_cell a3 hgl
    have H1 := Lib.hid (fun z : Ext w3 => good18_any p z.w _ (PA.out.ext z.h))
    have H2 := Lib.hid (fun z : Ext w3 => rgood18_any p z.w _ (PA.out.ext z.h))
    clear a0 a1 a2 a3 K1 PA
    generalize patB p = gd at *
    have EQ : ∀ u : World, (binOp .eql 4 (.bool gd) (.bool gd)).run Try.prog u = .ok (.bool true) u := fun u => by cases gd <;> kernel_rfl
    go_wp2_with fail
    refine wp_region_ext mixedS (by kernel_rfl) ?_
    repeat (first | go_big_quiet_skip | go_big_quiet_step ((first
      | (go_at_call 15; exact ext_call (H1.out _))
      | (go_at_call 16; exact ext_call (H2.out _))
      | (go_at_call 14; exact ext_call (works18 _)))))
    refine wpQuiet_nil ?_
    rintro _ ⟨z, rfl⟩
    have W := Lib.hid z.h
    generalize z.w = w4 at *
    clear c0 c1 c2 c3
    go_wp2
    go_ret
    exact ⟨rfl, B3.out.trans (W.out.mono B3.out.size)⟩
end Go.Proofs.Ytmfdggolnfoniaa
