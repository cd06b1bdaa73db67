/- Texts of general use, one behind another. -/
import Derived.Test.YtnhbbggpgieipaaGreatPoolf
import Derived.Test.YtnhbbggpgieipaaGreatIdxs

/- All that wait in a pool, with lists that may be written; a nil pool's hint: walked. -/
namespace Go.Proofs.YtnhbbggpgieipaaGreat
open Go.RowKit

set_option maxRecDepth 100000 in
set_option maxHeartbeats 2000000 in
theorem allPlN_any {w : World} {F : Nat → Prop} {g : Nat} {room : Int} {L : List PatV} (hP : PoolAt w F g room L) : Calls Tryz.prog 20 #[.pointer (some ⟨g, 0, none⟩)] w (RetN w L) := by
  have HI := Lib.hid (ids_any hP)
  have HP := Lib.hid hP
  have hfew := hP.few
  clear hP
  go_enter Tryz.func20, Tryz.ntmps20
  go_wp2_with fail
  refine HI.out.mono ?_
  rintro e w2 ⟨v, rfl, o1, b1⟩
  obtain ⟨A, c, rfl, _, ps⟩ := PidsAt.of_own o1 (by simp [idsV])
  have PS := Lib.hid ps
  have B1 := Lib.hid b1
  have HP := Lib.hid (HP.out.ext b1)
  clear o1 b1 ps HI
  have BS := Lib.hid (Below.refl w2.heap.size w2)
  go_wp2_with fail
  go_loopw [9, 3] (fun i s wr => ∃ k : Nat, k ≤ L.length ∧ i = .int .i64 k ∧ Hid (OwnN w2.heap.size wr s (L.take k)) ∧ Hid (Below w2.heap.size w2 wr)) (fun i _ _ => L.length - (intOf i).toNat)
  case atStart => exact ⟨0, by omega, rfl, OwnN.nil _ _, BS.out⟩
  case round =>
    clear BS
    obtain ⟨k, hk, rfl, O, B⟩ := hrel
    have hk0 : (0 : Int) ≤ (k : Int) := by omega
    by_cases hlt : k < L.length
    · have hlk : (k : Int) < (L.length : Int) := by omega
      obtain ⟨b, o, x, rfl, hb, hx, R⟩ := PS.out.at_ hlt
      have hp0 : L[k]? = some L[k] := List.getElem?_eq_getElem hlt
      generalize L[k] = p at hp0
      obtain rfl : x = p.1 := by
        rw [idsV, List.getElem?_map, hp0] at hx; exact (Option.some.inj hx).symm
      have R := Lib.hid (rangeAt_below R B.out hb)
      have M3 : Hid (Below wr.heap.size wr ((wr.alloc (.cells #[.int .u8 0, .int .u16 0] 33)).setRow wr.heap.size (encP p.1).toArray)) := below_setRow ((Below.refl _ _).alloc (Nat.le_refl _) _) (Nat.le_refl _) _
      have K4 : Hid (Blk ((wr.alloc (.cells #[.int .u8 0, .int .u16 0] 33)).setRow wr.heap.size (encP p.1).toArray) wr.heap.size 33 (encP p.1).toArray) := (Blk.new _ _ _).row _
      have i1 : (Tryz.prog.info? 33).map (·.size) = some (encP p.1).toArray.size := infoPid
      have i2 : (encP p.1).toArray.all (·.oneCell') = true := by simp [encP, Value.oneCell']
      have N : Hid (L.take (k + 1) = L.take k ++ [p]) := by rw [Hid, List.take_add_one, hp0]; rfl
      have B4 := Lib.hid (B.out.trans (M3.out.mono B.out.size))
      have O4 := Lib.hid (O.out.ext M3.out)
      have HP4 := Lib.hid (HP.out.ext B4.out)
      have GL := Lib.hid (patB_len (HP.out.good p (List.mem_of_getElem? hp0)))
      have RX := Lib.hid (K4.out.range)
      have hmem := Lib.hid (List.mem_of_getElem? hp0)
      clear hx hp0 O B M3 K4
      go_upto_region 5 with (first
        | (refine wpList_load_mid rfl 33 _ (by rfl) b (o + k * 2) (by rfl) _ _ R.out underPid rfl infoPid ?_)
        | (refine wpList_alloced (allocPI _) ?_)
        | (refine wpList_store_row rfl 33 _ _ (by rfl) wr.heap.size (encP p.1).toArray (by rfl) (by rfl) _ _ (Blk.new _ _ _) i1 rfl i2 ?_))
      generalize hW : ((wr.alloc (.cells #[.int .u8 0, .int .u16 0] 33)).setRow wr.heap.size (encP p.1).toArray) = w4 at *
      generalize wr.heap.size = gx at *
      clear hW i1 i2 R
      obtain ⟨gm, r, kb, hgm, pin, hl⟩ := HP4.out.look hmem.out
      have y1 : w4.cell? ⟨g, 1, none⟩ = some (.map (some gm)) := kb.cell 1
      have HL : Hid (∀ w', (∃ n, w' = w4.drewN n) → (Instr.lookup 79 (.map (some gm)) (.agg (encP p.1).toArray) false).run Tryz.prog w' = .ok (.agg r.toArray) w') := by
        rintro _ ⟨n, rfl⟩; exact hl _ rfl
      have PIN := Lib.hid pin
      clear hl pin kb
      refine wp_region_move_drawn (v := u3) 7 (by kernel_rfl) (by kernel_rfl) (fun _ _ _ h => h) rfl ?_
      simp only [Nat.reduceSub, List.take_succ_cons, List.take_zero, List.drop_succ_cons, List.drop_zero, Act.put, List.setIfInBounds_toArray, List.set_cons_zero, List.set_cons_succ]
      repeat (first
        | (refine wpQuiet_load_mid (rangeAt_drewN1 RX.out) underPid rfl infoPid rfl rfl ?_; simp only [List.set_cons_succ, List.set_cons_zero])
        | (refine wpQuiet_look HL.out rfl rfl rfl ?_; simp only [List.set_cons_succ, List.set_cons_zero])
        | go_big_quiet_step (fail))
      refine wpQuiet_nil ?_
      rintro _ ⟨nq, rfl⟩
      have D4 := below_drewN (Below.refl w4.heap.size w4) nq
      have B5 := Lib.hid (B4.out.trans (D4.mono B4.out.size))
      have O5 := Lib.hid (O4.out.ext D4)
      have PA5 := Lib.hid (PIN.out.ext D4)
      clear D4 B4 O4 PIN HL RX y1 hmem HP4
      generalize w4.drewN nq = w5 at *
      have hOB5 : Hid (w2.heap.size ≤ w5.heap.size) := B5.out.size
      have HC := Lib.hid (copy18_any p w5 _ PA5.out.at_ (by have := GL.out.1; omega) (by have := GL.out.2; omega))
      go_wp2_with fail
      refine HC.out.mono ?_
      rintro e w6 ⟨A3, c3, A4, c4, rfl, o1, o2, b4⟩
      have PN := Lib.hid (PatIn.of_copyN o1 o2 PA5.out.at_.oks PA5.out.len1 PA5.out.len2)
      have O6 := O5.out.ext b4
      have B6 := Lib.hid (B5.out.trans (b4.mono B5.out.size))
      have hOB6 : Hid (w2.heap.size ≤ w6.heap.size) := Nat.le_trans hOB5.out b4.size
      obtain ⟨rows, D, own, RI, HD⟩ := O6
      have hsl : Hid (∀ k, u3.ownBlock = some k → k < w5.heap.size) := fun k e => by
        obtain ⟨_, _, ow, _⟩ := O5.out
        exact (ow.lt k e).2
      have own := Lib.hid own
      have RI := Lib.hid RI
      have HD := Lib.hid HD
      have hle : Hid ((L.take k).length ≤ 32) := by rw [Hid, List.length_take]; omega
      clear o1 o2 b4 HC O5 B5
      go_wp2_with (first
        | (refine wpList_lit1 patSl PN.out.len4 (by omega) (by rfl) ?_)
        | (at_builtin; refine wpList_pushF patSl own.out (patC p.1 A3 p.2.1.length c3 A4 p.2.2.length c4) PN.out.len4 PN.out.one hOB6.out (by have := hle.out; omega) (by have := hle.out; unfold maxLen; omega) (by rfl) (by rfl) (by rfl) ?_; intro v5 w7 own5 kep5 new5))
      have O7 := Lib.hid (OwnN.push own5 kep5 new5 RI.out HD.out PN.out hOB5.out hsl.out)
      rw [← N.out] at O7
      have B7 := Lib.hid (B6.out.trans ((kep5.below (B := w2.heap.size) (fun k e => (own.out.lt k e).1) B6.out.size)))
      clear own5 kep5 new5
      go_roundw
      case rel => exact ⟨k + 1, by omega, by go_num, O7.out, B7.out⟩
      case measure => simp [intOf]; omega
    · have hlk : ¬ ((k : Int) < (L.length : Int)) := by omega
      have e : Hid (L.take k = L) := List.take_of_length_le (by omega)
      rw [e.out] at O
      have O8 := Lib.hid (O.out.mono B1.out.size)
      have B8 := Lib.hid (B1.out.trans (B.out.mono B1.out.size))
      clear O B
      go_wp2
      go_ret
      exact ⟨_, rfl, O8.out, B8.out⟩
set_option maxRecDepth 100000 in
set_option maxHeartbeats 1000000 in
theorem bloomPl_nil (w : World) : Calls Tryz.prog 21 #[.pointer none] w (RetB w (.agg #[.int .u64 0, .int .u64 0, .int .u64 0, .int .u64 0])) := by
  have K0 : Hid (Blk (w.alloc (.cells #[.int .u64 0, .int .u64 0, .int .u64 0, .int .u64 0] 60)) w.heap.size 60 #[.int .u64 0, .int .u64 0, .int .u64 0, .int .u64 0]) := Blk.new _ _ _
  have B0 : Hid (Below w.heap.size w (w.alloc (.cells #[.int .u64 0, .int .u64 0, .int .u64 0, .int .u64 0] 60))) := below_new _ _
  go_enter Tryz.func21, Tryz.ntmps21
  go_upto_region 1 with fail
  generalize (w.alloc (.cells #[.int .u64 0, .int .u64 0, .int .u64 0, .int .u64 0] 60)) = w1 at *
  generalize hgg : w.heap.size = gr at K0 ⊢
  go_wp2_with fail
  refine (ids_nil w1).mono ?_
  rintro e w2 ⟨rfl, b1⟩
  have HB := Lib.hid (of13_any [] w2 none 0 0 ⟨rfl, rfl, fun h => absurd h (by decide)⟩ (by decide))
  have B2 := Lib.hid (B0.out.trans (b1.mono B0.out.size))
  have K2 := Lib.hid (K0.out.ext b1)
  clear b1 K0 B0
  go_wp2_with fail
  refine HB.out.mono ?_
  rintro e w3 ⟨rfl, b3⟩
  have B3 := Lib.hid (B2.out.trans (b3.mono B2.out.size))
  have K3 := Lib.hid (K2.out.ext b3)
  clear b3 HB B2 K2
  have hz : (encBl (ofN [])).toArray = #[.int .u64 0, .int .u64 0, .int .u64 0, .int .u64 0] := by kernel_rfl
  rw [hz]
  have HO : Hid ((#[.int .u64 0, .int .u64 0, .int .u64 0, .int .u64 0] : Array Value).all (·.oneCell') = true) := by simp [Hid, Value.oneCell']
  have KR := Lib.hid (K3.out.row #[.int .u64 0, .int .u64 0, .int .u64 0, .int .u64 0])
  have BB := Lib.hid (below_setRow B3.out (by rw [hgg]; exact Nat.le_refl _) #[.int .u64 0, .int .u64 0, .int .u64 0, .int .u64 0] (g := gr))
  go_wp2_with (refine wpList_store_row rfl 60 _ _ (by rfl) gr #[.int .u64 0, .int .u64 0, .int .u64 0, .int .u64 0] (by rfl) (by rfl) _ _ K3.out infoBl rfl HO.out ?_)
  generalize (w3.setRow gr #[.int .u64 0, .int .u64 0, .int .u64 0, .int .u64 0]) = w5 at *
  have z0 := KR.out.cell 0
  have z1 := KR.out.cell 1
  have z2 := KR.out.cell 2
  have z3 := KR.out.cell 3
  simp at z0 z1 z2 z3
  refine bodyPost_ret (v := .agg #[.int .u64 0, .int .u64 0, .int .u64 0, .int .u64 0]) ?_ rfl ⟨rfl, BB.out⟩
  simp [results, Tryz.results21, go_sem, z0, z1, z2, z3]
end Go.Proofs.YtnhbbggpgieipaaGreat

/- Patches that were handed back, and whatever is written into their operations: plain facts of memory. -/
namespace Go.Proofs.YtnhbbggpgieipaaGreat
open Go.RowKit

/-- a patch in a row of its own -/
theorem pats_one {w : World} {r : List Value} {p : PatV} (h : PatAt w r p) : PatsAt (w.alloc (.cells r.toArray 37)) (some ⟨w.heap.size, 0, none⟩) 1 [p] := by
  refine ⟨rfl, [r], ⟨rfl, fun k r' p' h1 h2 => ?_⟩, ?_⟩
  · match k, h1, h2 with
    | 0, h1, h2 =>
      obtain rfl : r = r' := by simpa using h1
      obtain rfl : p = p' := by simpa using h2
      exact h.ext (below_new _ _)
    | _ + 1, h1, _ => simp at h1
  · have e : [r].flatten = r := by simp
    rw [e]
    exact sl_fresh w _ 37 4 1 r (by rw [h.len4]) rfl
theorem PoolAt.setCell {w : World} {F : Nat → Prop} {g : Nat} {room : Int} {L : List PatV} (h : PoolAt w F g room L) {b : Nat} (hb : ¬ F b) (o : Nat) (u : Value) : PoolAt (w.setCell ⟨b, o, none⟩ u) F g room L :=
  h.stay ⟨by simp [World.setCell], fun k _ hF => Below.heap_setCell w ⟨b, o, none⟩ u k (by rintro rfl; exact hb hF)⟩
/-- cells that there are -/
def CellsAt (w : World) (b o m : Nat) : Prop := ∀ j, j < m → ∃ u, w.cell? ⟨b, o + j, none⟩ = some u
theorem CellsAt.set {w : World} {b o m : Nat} (h : CellsAt w b o m) {b' o' : Nat} (hf : NFr w b') (u : Value) : CellsAt (w.setCell ⟨b', o', none⟩ u) b o m := by
  intro j hj
  obtain ⟨y, hc⟩ := h j hj
  by_cases hb : b = b'
  · subst hb
    obtain ⟨cs, t, hB⟩ := hf
    have hB : Blk w b t cs := hB
    have h2 := (hB.set_ o' u).cell (o + j)
    rw [hB.cell] at hc
    rw [Array.getElem?_setIfInBounds] at h2
    by_cases ho : o' = o + j
    · rw [if_pos ho] at h2
      have hl : o + j < cs.size := (Array.getElem?_eq_some_iff.1 hc).1
      rw [if_pos (by omega)] at h2
      exact ⟨u, h2⟩
    · rw [if_neg ho, hc] at h2
      exact ⟨y, h2⟩
  · exact ⟨y, (World.cell?_of_block (a := ⟨b, o + j, none⟩) (Below.heap_setCell w ⟨b', o', none⟩ u b hb)).trans hc⟩
theorem CellsAt.stay {w w' : World} {b o m : Nat} (h : CellsAt w b o m) (e : w'.heap[b]? = w.heap[b]?) : CellsAt w' b o m := fun j hj => by
  obtain ⟨y, hc⟩ := h j hj
  exact ⟨y, (World.cell?_of_block (a := ⟨b, o + j, none⟩) e).trans hc⟩
def RowC (w : World) (D : Nat → Prop) (r : List Value) : Prop := ∃ d A n c A' n' c', r = patC d A n c A' n' c' ∧ n' ≤ maxLen ∧ (0 < n' → ∃ b o, A' = some ⟨b, o, none⟩ ∧ D b ∧ CellsAt w b o (n' * 8))
theorem PatIn.rowc {w : World} {D : Nat → Prop} {r : List Value} {p : PatV} (h : PatIn w D r p) : RowC w D r := by
  obtain ⟨⟨A, c, A', c', e, h1, h2, i1, i2⟩, h3, h4⟩ := h
  refine ⟨p.1, A, _, c, A', _, c', e, h4, fun hn => ?_⟩
  obtain ⟨b, o, e', hb, hc⟩ := h2.sl.2 hn
  refine ⟨b, o, e', i2 hn b o e', fun j hj => ?_⟩
  have hl : j < (p.2.2.flatMap encO).length := by rw [h2.sl.1]; exact hj
  exact ⟨_, (hc j hj).trans (List.getElem?_eq_getElem hl)⟩
/-- a row of such, its operations' blocks apart from it, and free to be written -/
def AllC (B : Nat) (w : World) (s : Value) (n : Nat) : Prop := ∃ (rows : List (List Value)) (D : Nat → Prop), w.ownsRow 0 37 4 s n rows.flatten ∧ rows.length = n ∧ (∀ r ∈ rows, r.length = 4) ∧ (∀ r ∈ rows, RowC w D r) ∧ ∀ k, D k → B ≤ k ∧ k < w.heap.size ∧ s.ownBlock ≠ some k ∧ NFr w k
theorem OwnN.allc {B : Nat} {w : World} {s : Value} {l : List PatV} (h : OwnN B w s l) : AllC B w s l.length := by
  obtain ⟨rows, D, h1, h2, h3⟩ := h
  refine ⟨rows, D, own_rebase h1 (fun _ _ => Nat.zero_le _), h2.1, h2.rowsP.len4, fun r hr => ?_, h3⟩
  obtain ⟨k, hk, rfl⟩ := List.getElem_of_mem hr
  have hk' : k < l.length := by rw [← h2.1]; exact hk
  exact (h2.2 k _ _ (List.getElem?_eq_getElem hk) (List.getElem?_eq_getElem hk')).rowc
/-- the patch at a place: its cells -/
theorem AllC.at_ {B : Nat} {w : World} {A : Option Addr} {c n : Nat} (h : AllC B w (.slice A n c) n) {i : Nat} (hi : i < n) : ∃ b d A1 n1 c1 A2 n2 c2, A = some ⟨b, 0, none⟩ ∧ b < w.heap.size ∧ w.rangeAt b (i * 4) (patC d A1 n1 c1 A2 n2 c2) ∧ n2 ≤ maxLen ∧
    (0 < n2 → ∃ b' o', A2 = some ⟨b', o', none⟩ ∧ B ≤ b' ∧ b' < w.heap.size ∧ b' ≠ b ∧ NFr w b' ∧ CellsAt w b' o' (n2 * 8)) := by
  obtain ⟨rows, D, h1, h2, h3, h4, h5⟩ := h
  have hir : i < rows.length := by rw [h2]; exact hi
  obtain ⟨d, A1, n1, c1, A2, n2, c2, e, hn, ho⟩ := h4 rows[i] (List.getElem_mem hir)
  have hlen := h1.1
  obtain ⟨g, rfl⟩ : ∃ g, A = some ⟨g, 0, none⟩ := by
    rcases h1.2 with ⟨h', h0⟩ | ⟨g', cap', cur, h', _⟩
    · omega
    · injection h' with h' _ _; exact ⟨g', h'⟩
  have hg := (h1.lt g rfl).2
  refine ⟨g, d, A1, n1, c1, A2, n2, c2, rfl, hg, ?_, hn, fun hp => ?_⟩
  · rw [← e]
    have e2 : rows.flatten = rows.flatMap id := by simp [List.flatMap_def]
    rw [e2] at h1
    intro j v hj
    have hj4 : j < 4 := by have := (List.getElem?_eq_some_iff.1 hj).1; rw [h3 _ (List.getElem_mem hir)] at this; exact this
    rw [h1.cellAt _ (by have : i * 4 + 4 ≤ n * 4 := by omega
                        omega), flatMap_get id rows (fun r hr => h3 r hr) i j hir hj4]
    exact hj
  · obtain ⟨b', o', e', hD, hN⟩ := ho hp
    obtain ⟨d1, d2, d3, d4⟩ := h5 b' hD
    exact ⟨b', o', e', d1, d2, fun c => d3 (by rw [c]; rfl), d4, hN⟩
/-- something is written into an operation -/
theorem AllC.set {B : Nat} {w : World} {b c n : Nat} (h : AllC B w (.slice (some ⟨b, 0, none⟩) n c) n) {b' o : Nat} (hb : b' ≠ b) (hf : NFr w b') (u : Value) : AllC B (w.setCell ⟨b', o, none⟩ u) (.slice (some ⟨b, 0, none⟩) n c) n := by
  obtain ⟨rows, D, h1, h2, h3, h4, h5⟩ := h
  refine ⟨rows, D, own_keepF h1 (fun g e => ?_), h2, h3, fun r hr => ?_, fun k e => ⟨(h5 k e).1, by simpa [World.setCell] using (h5 k e).2.1, (h5 k e).2.2.1, (h5 k e).2.2.2.set _ rfl _⟩⟩
  · obtain rfl : b = g := by simpa [Value.ownBlock] using e
    exact Below.heap_setCell w ⟨b', o, none⟩ _ b (fun c => hb c.symm)
  · obtain ⟨d, A, n, c, A', n', c', e, hn, ho⟩ := h4 r hr
    refine ⟨d, A, n, c, A', n', c', e, hn, fun hp => ?_⟩
    obtain ⟨b2, o2, e', hD, hN⟩ := ho hp
    exact ⟨b2, o2, e', hD, hN.set hf u⟩
/-- an operation list of one's own: its kinds may be written -/
theorem own_nums {w : World} {B n : Nat} {A : Option Addr} {c : Nat} {l : List OpV} (h : w.ownsRow B 78 8 (.slice A n c) n (l.flatMap encO)) (hl : l.length = n) (hp : 0 < n) : ∃ b, A = some ⟨b, 0, none⟩ ∧ B ≤ b ∧ b < w.heap.size ∧ NFr w b ∧ NumsAt w .u8 b (fun j => 0 + j * 8) n := by
  have hlen := h.1
  obtain ⟨g, rfl⟩ : ∃ g, A = some ⟨g, 0, none⟩ := by
    rcases h.2 with ⟨h', h0⟩ | ⟨g', cap', cur, h', _⟩
    · omega
    · injection h' with h' _ _; exact ⟨g', h'⟩
  obtain ⟨cur, hh⟩ := own_type h rfl
  refine ⟨g, rfl, (h.lt g rfl).1, (h.lt g rfl).2, ⟨cur, _, hh⟩, fun j hj => ?_⟩
  have hj' : j < l.length := by omega
  refine ⟨((l[j].1.val : Nat) : Int), lit_u8 _, ?_⟩
  have hg := flatMap_get encO l (fun o _ => encO_len o) j 0 hj' (by omega)
  rw [Nat.add_zero] at hg
  have hc := h.cellAt (j * 8) (by omega)
  rw [hg] at hc
  show w.cell? ⟨g, 0 + j * 8, none⟩ = _
  rw [Nat.zero_add, hc]; rfl
end Go.Proofs.YtnhbbggpgieipaaGreat
