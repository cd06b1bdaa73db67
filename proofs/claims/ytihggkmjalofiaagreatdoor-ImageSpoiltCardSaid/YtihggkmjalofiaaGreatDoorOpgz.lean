/- Whether an operation may stand at a place. -/
import Derived.Test.YtihggkmjalofiaaGreatDoorGoods
import Derived.Test.YtihggkmjalofiaaGreatDoorWords
namespace Go.Proofs.YtihggkmjalofiaaGreatDoor
open Go.RowKit

def peqV (a s : Int) (v : VidO) : Bool := decide (v.a = a) && decide (v.s = s)
def veqV (x y : VidO) : Bool := decide (x.a = y.a) && decide (x.s = y.s) && decide (x.n = y.n)
def refOk (a s i : Int) (v : VidO) : Bool := vidOk v.a v.s v.n && !(peqV a s v && decide (i ≤ v.n))
def tailOk (a s k : Int) (x y : VidO) (t : ByteArray) : Bool :=
  if k = 1 then veqV y ⟨0, 0, 0⟩ && (veqV x ⟨0, 0, 0⟩ && t.toList.isEmpty)
  else if k = 2 then veqV y ⟨0, 0, 0⟩ && nameB t.data.toList
  else if k = 3 then veqV y ⟨0, 0, 0⟩ && lineB t.data.toList
  else if k = 4 then !veqV x y && t.toList.isEmpty
  else if k = 5 then veqV y ⟨0, 0, 0⟩ && (!peqV a s x && t.toList.isEmpty)
  else false
def opGood (a s i k : Int) (x y : VidO) (t : ByteArray) : Bool := (refsV k x y).all (refOk a s i) && tailOk a s k x y t

theorem allT_snoc (l : List VidO) (p : VidO → Bool) (k : Nat) (h : k < l.length) : (l.take (k+1)).all p = ((l.take k).all p && p l[k]) := by
  rw [List.take_succ_eq_append_getElem h, List.all_append]; simp only [List.all_cons, List.all_nil, Bool.and_true]
theorem allT_false (l : List VidO) (p : VidO → Bool) (k : Nat) (h : k < l.length) (hp : p l[k] = false) : l.all p = false := by
  rw [List.all_eq_false]; exact ⟨l[k], List.getElem_mem h, by simp [hp]⟩
theorem refsV_ok (k : Int) (x y : VidO) (hx : x.ok) (hy : y.ok) : ∀ v ∈ refsV k x y, v.ok := by
  intro v hv; unfold refsV at hv; split at hv
  · simp at hv; rw [hv]; exact hx
  · split at hv
    · simp at hv; rcases hv with rfl | rfl; exact hx; exact hy
    · simp at hv
theorem refsV_le (k : Int) (x y : VidO) : (refsV k x y).length ≤ 2 := by unfold refsV; split; simp; split <;> simp
theorem ext_cell {w0 : World} {b o : Nat} {v : Value} (h : w0.cell? ⟨b, o, none⟩ = some v) (hb : b < w0.heap.size) : ∀ z : Ext w0, z.w.cell? ⟨b, o, none⟩ = some v := fun z => (z.h.cell (p := ⟨b, o, none⟩) hb).trans h
/-- the argument's cells in a block -/
def OpAt (w : World) (b : Nat) (k : Int) (x y : VidO) (t : ByteArray) : Prop :=
  w.cell? ⟨b, 0, none⟩ = some (.int .u8 k) ∧ w.cell? ⟨b, 1, none⟩ = some (.int .u8 x.a) ∧ w.cell? ⟨b, 2, none⟩ = some (.int .u16 x.s) ∧ w.cell? ⟨b, 3, none⟩ = some (.int .u8 x.n) ∧
  w.cell? ⟨b, 4, none⟩ = some (.int .u8 y.a) ∧ w.cell? ⟨b, 5, none⟩ = some (.int .u16 y.s) ∧ w.cell? ⟨b, 6, none⟩ = some (.int .u8 y.n) ∧ w.cell? ⟨b, 7, none⟩ = some (.string t) ∧ b < w.heap.size
def PidAt (w : World) (b : Nat) (a s : Int) : Prop := w.cell? ⟨b, 0, none⟩ = some (.int .u8 a) ∧ w.cell? ⟨b, 1, none⟩ = some (.int .u16 s) ∧ b < w.heap.size
theorem OpAt.keep {w w' : World} {b : Nat} {k : Int} {x y : VidO} {t : ByteArray} (h : OpAt w b k x y t) (hb : Below w.heap.size w w') : OpAt w' b k x y t := by
  obtain ⟨h0, h1, h2, h3, h4, h5, h6, h7, hl⟩ := h
  exact ⟨(hb.cell hl).trans h0, (hb.cell hl).trans h1, (hb.cell hl).trans h2, (hb.cell hl).trans h3, (hb.cell hl).trans h4, (hb.cell hl).trans h5, (hb.cell hl).trans h6, (hb.cell hl).trans h7, Nat.lt_of_lt_of_le hl hb.size⟩
theorem PidAt.keep {w w' : World} {b : Nat} {a s : Int} (h : PidAt w b a s) (hb : Below w.heap.size w w') : PidAt w' b a s := by
  obtain ⟨h0, h1, hl⟩ := h
  exact ⟨(hb.cell hl).trans h0, (hb.cell hl).trans h1, Nat.lt_of_lt_of_le hl hb.size⟩
theorem opAt_new (w : World) (e : TypeId) (k : Int) (x y : VidO) (t : ByteArray) (b : Nat) (hs : w.heap.size = b) : OpAt (w.alloc (.cells #[.int .u8 k, .int .u8 x.a, .int .u16 x.s, .int .u8 x.n, .int .u8 y.a, .int .u16 y.s, .int .u8 y.n, .string t] e)) b k x y t := by
  subst hs
  have B := Blk.new w e #[.int .u8 k, .int .u8 x.a, .int .u16 x.s, .int .u8 x.n, .int .u8 y.a, .int .u16 y.s, .int .u8 y.n, .string t]
  exact ⟨B.cell 0, B.cell 1, B.cell 2, B.cell 3, B.cell 4, B.cell 5, B.cell 6, B.cell 7, by simp⟩
theorem pidAt_new (w : World) (e : TypeId) (a s : Int) (b : Nat) (hs : w.heap.size = b) : PidAt (w.alloc (.cells #[.int .u8 a, .int .u16 s] e)) b a s := by
  subst hs
  have B := Blk.new w e #[.int .u8 a, .int .u16 s]
  exact ⟨B.cell 0, B.cell 1, by simp⟩

set_option maxRecDepth 100000 in
set_option maxHeartbeats 1000000 in
theorem good_any (a s i k : Int) (x y : VidO) (t : ByteArray) (w : World) (_ha : 0 ≤ a ∧ a < 256) (_hs : 0 ≤ s ∧ s < 65536) (hk : 0 ≤ k ∧ k < 256) (hx : x.ok) (hy : y.ok) (ht : t.size ≤ maxLen) :
    Calls Tryz.prog 183 #[pidC a s, .int .i64 i, opC k x y t] w (RetB w (.bool (opGood a s i k x y t))) := by
  have HC := Lib.hid (fun w => refs_any k x y t w hk)
  have HV := Lib.hid (refsV_ok k x y hx hy)
  have HL := refsV_le k x y
  have HD : Hid (opGood a s i k x y t = ((refsV k x y).all (refOk a s i) && tailOk a s k x y t)) := rfl
  generalize refsV k x y = l at *
  obtain ⟨hk0, hk1⟩ := hk
  clear hx hy
  go_enter Tryz.func183, Tryz.ntmps183
  go_wp2_with fail
  refine (HC.out _).mono ?_
  rintro e w1 ⟨A, c, rfl, hc, hsl, hb⟩
  have P1 := (((pidAt_new w 27 a s _ rfl).keep (below_box _ _)).keep hb)
  have O1 := (opAt_new (w.alloc (.cells #[.int .u8 a, .int .u16 s] 27)) 122 k x y t (w.heap.size + 1) (by simp)).keep hb
  have B1 := Lib.hid (ext_trans (ext_trans (below_box w _) (below_box _ _)) hb)
  clear hb HC
  have HS := Lib.hid hsl
  clear hsl
  have HB := Lib.hid (Nat.le_of_lt P1.2.2)
  go_wp2_with fail
  go_loopw [13] (fun z w' => ∃ k : Nat, k ≤ l.length ∧ z = .int .i64 k ∧ Below w1.heap.size w1 w' ∧ Hid ((l.take k).all (refOk a s i) = true)) (fun z _ => l.length - (intOf z).toNat)
  case atStart => exact ⟨0, Nat.zero_le _, rfl, Below.refl _ _, rfl⟩
  case round =>
    obtain ⟨j, hj, rfl, hw, HA⟩ := hrel
    have P2 := P1.keep hw
    have O2 := O1.keep hw
    by_cases hlt : j < l.length
    · obtain ⟨b1, o1, rfl, hb1, p0, p1, p2⟩ := at_vid HS.out hlt
      replace p0 := (hw.cell hb1).trans p0
      replace p1 := (hw.cell hb1).trans p1
      replace p2 := (hw.cell hb1).trans p2
      obtain ⟨v, hv⟩ : ∃ v, v = l[j] := ⟨_, rfl⟩
      have ⟨va, vs, vn⟩ := HV.out l[j] (List.getElem_mem hlt)
      have HG := Lib.hid (fun w => vgood_any l[j].a l[j].s l[j].n w va vs vn)
      have E := Lib.hid (allT_snoc l (refOk a s i) j hlt)
      have EF := Lib.hid (allT_false l (refOk a s i) j hlt)
      have ER : Hid (refOk a s i l[j] = (vidOk l[j].a l[j].s l[j].n && !(peqV a s l[j] && decide (i ≤ l[j].n)))) := rfl
      rw [← hv] at p0 p1 p2 va vs vn HG E EF ER
      clear hv
      obtain ⟨x1, x2, x3⟩ := P2
      cases hr : vidOk v.a v.s v.n
      · have F : Hid (opGood a s i k x y t = false) := by rw [Hid, HD.out, EF.out (by rw [ER.out, hr]; rfl)]; rfl
        rw [hr] at HG
        clear hr HD
        go_wp2_with fail
        refine (HG.out _).mono ?_
        rintro e w3 ⟨rfl, hb3⟩
        go_wp2_with fail
        go_ret
        exact ⟨ret_bool F.out.symm, B1.out.trans ((hw.trans ((ext_trans (below_box _ _) hb3).mono hw.size)).mono HB.out)⟩
      · rw [hr] at HG ER
        go_wp2_with fail
        refine (HG.out _).mono ?_
        rintro e w3 ⟨rfl, hb3⟩
        have V := Blk.new wr 120 #[.int .u8 v.a, .int .u16 v.s, .int .u8 v.n]
        have k0 := (hb3.cell (p := ⟨wr.heap.size, 0, none⟩) (by simp)).trans (V.cell 0)
        have k1 := (hb3.cell (p := ⟨wr.heap.size, 1, none⟩) (by simp)).trans (V.cell 1)
        have k2 := (hb3.cell (p := ⟨wr.heap.size, 2, none⟩) (by simp)).trans (V.cell 2)
        clear V
        have W := Lib.hid (ext_trans (below_box _ _) hb3)
        replace x1 := (W.out.cell (p := ⟨w.heap.size, 0, none⟩) x3).trans x1
        replace x2 := (W.out.cell (p := ⟨w.heap.size, 1, none⟩) x3).trans x2
        clear hb3
        go_wp2_with fail
        all_goals first
          | (go_ret
             refine ⟨ret_bool (Eq.symm ?_), B1.out.trans ((hw.trans (W.out.mono hw.size)).mono HB.out)⟩
             rw [HD.out, EF.out (by rw [ER.out]; simp [peqV]; omega)]; rfl)
          | (go_roundw
             case rel => exact ⟨j + 1, by omega, by go_num, hw.trans (W.out.mono hw.size), by rw [Hid, E.out, HA.out, ER.out]; simp [peqV]; omega⟩
             case measure => simp [intOf]; omega)
    · have hj' : j = l.length := by omega
      subst hj'
      have G : Hid (opGood a s i k x y t = tailOk a s k x y t) := by
        have h := HA.out; rw [List.take_length] at h; rw [Hid, HD.out, h]; rfl
      clear HA HD HV HS P1 O1
      obtain ⟨x1, x2, x3⟩ := P2
      obtain ⟨y0, y1, y2, y3, y4, y5, y6, y7, y8⟩ := O2
      have W := Lib.hid (B1.out.trans (hw.mono HB.out))
      clear B1 hw
      have HT := Lib.hid ht
      have HW := Lib.hid (Nat.le_of_lt x3)
      clear ht
      by_cases c1 : k = 1
      · subst c1
        go_wp2_with (first
          | (go_at_call 259; refine (name_any _ _ HT.out).mono ?_; rintro e w4 ⟨rfl, hb4⟩)
          | (go_at_call 260; refine (line_any _ _ HT.out).mono ?_; rintro e w4 ⟨rfl, hb4⟩))
        all_goals go_ret
        all_goals refine ⟨ret_bool (Eq.symm ?_), ?_⟩
        all_goals first
          | exact W.out
          | exact W.out.trans (hb4.mono HW.out)
          | skip
        all_goals (rw [G.out]; clear G)
        all_goals (simp [tailOk, veqV, *]; done)
      by_cases c2 : k = 2
      · subst c2
        go_wp2_with (first
          | (go_at_call 259; refine (name_any _ _ HT.out).mono ?_; rintro e w4 ⟨rfl, hb4⟩)
          | (go_at_call 260; refine (line_any _ _ HT.out).mono ?_; rintro e w4 ⟨rfl, hb4⟩))
        all_goals go_ret
        all_goals refine ⟨ret_bool (Eq.symm ?_), ?_⟩
        all_goals first
          | exact W.out
          | exact W.out.trans (hb4.mono HW.out)
          | skip
        all_goals (rw [G.out]; clear G)
        all_goals (simp [tailOk, veqV, *]; done)
      by_cases c3 : k = 3
      · subst c3
        go_wp2_with (first
          | (go_at_call 259; refine (name_any _ _ HT.out).mono ?_; rintro e w4 ⟨rfl, hb4⟩)
          | (go_at_call 260; refine (line_any _ _ HT.out).mono ?_; rintro e w4 ⟨rfl, hb4⟩))
        all_goals go_ret
        all_goals refine ⟨ret_bool (Eq.symm ?_), ?_⟩
        all_goals first
          | exact W.out
          | exact W.out.trans (hb4.mono HW.out)
          | skip
        all_goals (rw [G.out]; clear G)
        all_goals (simp [tailOk, veqV, *]; done)
      by_cases c4 : k = 4
      · subst c4
        go_wp2_with (first
          | (go_at_call 259; refine (name_any _ _ HT.out).mono ?_; rintro e w4 ⟨rfl, hb4⟩)
          | (go_at_call 260; refine (line_any _ _ HT.out).mono ?_; rintro e w4 ⟨rfl, hb4⟩))
        all_goals go_ret
        all_goals refine ⟨ret_bool (Eq.symm ?_), ?_⟩
        all_goals first
          | exact W.out
          | exact W.out.trans (hb4.mono HW.out)
          | skip
        all_goals (rw [G.out]; clear G)
        all_goals (simp [tailOk, veqV, *]; done)
      by_cases c5 : k = 5
      · subst c5
        go_wp2_with (first
          | (go_at_call 259; refine (name_any _ _ HT.out).mono ?_; rintro e w4 ⟨rfl, hb4⟩)
          | (go_at_call 260; refine (line_any _ _ HT.out).mono ?_; rintro e w4 ⟨rfl, hb4⟩))
        all_goals go_ret
        all_goals refine ⟨ret_bool (Eq.symm ?_), ?_⟩
        all_goals first
          | exact W.out
          | exact W.out.trans (hb4.mono HW.out)
          | skip
        all_goals (rw [G.out]; clear G)
        all_goals (simp [tailOk, veqV, peqV, *]; done)
      replace G : Hid (opGood a s i k x y t = false) := by rw [Hid, G.out, tailOk, if_neg c1, if_neg c2, if_neg c3, if_neg c4, if_neg c5]
      have d1 : (k == 1) = false := by simpa using c1
      have d2 : (k == 2) = false := by simpa using c2
      have d3 : (k == 3) = false := by simpa using c3
      have d4 : (k == 4) = false := by simpa using c4
      have d5 : (k == 5) = false := by simpa using c5
      clear c1 c2 c3 c4 c5
      go_wp2_with (first
        | (go_at_call 259; refine (name_any _ _ HT.out).mono ?_; rintro e w4 ⟨rfl, hb4⟩)
        | (go_at_call 260; refine (line_any _ _ HT.out).mono ?_; rintro e w4 ⟨rfl, hb4⟩))
      all_goals go_ret
      all_goals refine ⟨ret_bool (Eq.symm ?_), ?_⟩
      all_goals first
        | exact W.out
        | exact W.out.trans (hb4.mono HW.out)
        | skip
      all_goals exact G.out

end Go.Proofs.YtihggkmjalofiaaGreatDoor
