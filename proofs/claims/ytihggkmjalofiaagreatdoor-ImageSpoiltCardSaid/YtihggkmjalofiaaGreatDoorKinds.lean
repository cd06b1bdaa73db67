/- Texts of general use, one behind another. -/
import Derived.Test.YtihggkmjalofiaaGreatDoorOps

/- Whether a patch is small; of which kind a vertex of its own is: walked. -/
namespace Go.Proofs.YtihggkmjalofiaaGreatDoor
open Go.RowKit

def fewP (p : PatV) : Bool := decide (p.2.1.length ≤ 100) && (decide (p.2.2.length ≤ 260) && p.2.2.all fun o => decide (o.2.2.2.size ≤ 200))
def fewN (p : PatV) : Int := if fewP p = true then 1 else 0
theorem fewN_true {p : PatV} (h : fewP p = true) : fewN p = 1 := by unfold fewN; rw [if_pos h]
theorem fewN_false {p : PatV} (h : fewP p = false) : fewN p = 0 := by unfold fewN; rw [if_neg (by simp [h])]
theorem allO_snoc {l : List OpV} {f : OpV → Bool} {k : Nat} {x : OpV} (h : l[k]? = some x) (hk : (l.take k).all f = true) (hx : f x = true) : (l.take (k + 1)).all f = true := by
  rw [take_snoc' h, List.all_append, hk]; simp [hx]
theorem allO_false {l : List OpV} {f : OpV → Bool} {k : Nat} {x : OpV} (h : l[k]? = some x) (hx : f x = false) : l.all f = false := by
  rw [List.all_eq_false]; exact ⟨x, List.mem_of_getElem? h, by simp [hx]⟩
set_option maxRecDepth 100000 in
set_option maxHeartbeats 4000000 in
theorem few18_any (p : PatV) (w : World) (cs : List Value) (hp : PatAt w cs p) : Calls Tryz.prog 18 #[.agg cs.toArray] w (RetB w (.int .i64 (fewN p))) := by
  obtain ⟨⟨A, c, A', c', rfl, P1, O1⟩, m1, m2⟩ := hp
  have K1 : Hid (Blk (w.alloc (.cells (patC p.1 A p.2.1.length c A' p.2.2.length c').toArray 31)) w.heap.size 31 (patC p.1 A p.2.1.length c A' p.2.2.length c').toArray) := Blk.new _ _ _
  have B0 : Hid (Below w.heap.size w (w.alloc (.cells (patC p.1 A p.2.1.length c A' p.2.2.length c').toArray 31))) := below_new _ _
  go_enter Tryz.func18, Tryz.ntmps18
  go_upto_region 1 with fail
  generalize (w.alloc (.cells (patC p.1 A p.2.1.length c A' p.2.2.length c').toArray 31)) = w2 at *
  have O1 := Lib.hid (O1.ext B0.out)
  have a2 : w2.cell? ⟨w.heap.size, 2, none⟩ = some (.slice A p.2.1.length c) := K1.out.cell 2
  have a3 : w2.cell? ⟨w.heap.size, 3, none⟩ = some (.slice A' p.2.2.length c') := K1.out.cell 3
  clear P1 K1
  by_cases h1 : p.2.1.length ≤ 100
  · have d1 : ¬ (100 < (p.2.1.length : Int)) := by omega
    by_cases h2 : p.2.2.length ≤ 260
    · have d2 : ¬ (260 < (p.2.2.length : Int)) := by omega
      have F : Hid ((p.2.2.all fun o => decide (o.2.2.2.size ≤ 200)) = fewP p) := by unfold fewP; rw [decide_eq_true h1, decide_eq_true h2]; rfl
      go_wp2_with fail
      go_loop [3] (fun i => ∃ k : Nat, k ≤ p.2.2.length ∧ i = .int .i64 k ∧ Hid (((p.2.2.take k).all fun o => decide (o.2.2.2.size ≤ 200)) = true)) (fun i => p.2.2.length - (intOf i).toNat)
      case atStart => exact ⟨0, by omega, rfl, rfl⟩
      case round =>
        obtain ⟨k, hk, rfl, T⟩ := hrel
        have hk0 : (0 : Int) ≤ (k : Int) := by omega
        by_cases hlt : k < p.2.2.length
        · obtain ⟨b, o, x, rfl, hb, hx, R3, hok⟩ := O1.out.at_ hlt
          have t7 : w2.cell? ⟨b, o + k * 8 + 7, none⟩ = some (.string x.2.2.2) := R3 7 _ rfl
          have hlk : (k : Int) < (p.2.2.length : Int) := by omega
          by_cases ht : x.2.2.2.size ≤ 200
          · have dt : ¬ (200 < (x.2.2.2.size : Int)) := by omega
            have N := Lib.hid (allO_snoc hx T.out (decide_eq_true ht))
            clear T hx R3
            go_wp2_with fail
            go_round
            case rel => exact ⟨k + 1, by omega, by go_num, N.out⟩
            case measure => simp [intOf]; omega
          · have dt : 200 < (x.2.2.2.size : Int) := by omega
            have N := Lib.hid (allO_false (f := fun o => decide (o.2.2.2.size ≤ 200)) hx (decide_eq_false ht))
            clear T hx R3
            go_wp2
            go_ret
            exact ⟨ret_int (fewN_false (F.out.symm.trans N.out)).symm, B0.out⟩
        · have hlk : ¬ ((k : Int) < (p.2.2.length : Int)) := by omega
          rw [List.take_of_length_le (by omega)] at T
          go_wp2
          go_ret
          exact ⟨ret_int (fewN_true (F.out.symm.trans T.out)).symm, B0.out⟩
    · have d2 : 260 < (p.2.2.length : Int) := by omega
      have F : Hid (fewP p = false) := by unfold fewP; rw [decide_eq_false h2]; simp [Hid]
      go_wp2
      go_ret
      exact ⟨ret_int (fewN_false F.out).symm, B0.out⟩
  · have d1 : 100 < (p.2.1.length : Int) := by omega
    have F : Hid (fewP p = false) := by unfold fewP; rw [decide_eq_false h1]; rfl
    go_wp2
    go_ret
    exact ⟨ret_int (fewN_false F.out).symm, B0.out⟩
end Go.Proofs.YtihggkmjalofiaaGreatDoor

/- Does an operation name something that came later? Walked. -/
namespace Go.Proofs.YtihggkmjalofiaaGreatDoor
open Go.RowKit

def isLater (id : PidV) (v : VidV) : Bool := decide (((v.1.1.val : Nat) : Int) = ((id.1.val : Nat) : Int)) && decide (((id.2.val : Nat) : Int) < ((v.1.2.val : Nat) : Int))
set_option maxRecDepth 100000 in
set_option maxHeartbeats 2000000 in
theorem later1_any (y : VidV) (id : PidV) (w : World) (g : Nat) (K : Blk w g 27 (encP id).toArray) : Calls Tryz.prog 262 #[.agg (encV y).toArray, .pointer (some ⟨g, 0, none⟩)] w (RetB w (.bool (isLater id y))) := by
  have B0 : Hid (Below w.heap.size w (w.alloc (.cells (encV y).toArray 120))) := below_new _ _
  have K2 : Hid (Blk (w.alloc (.cells (encV y).toArray 120)) w.heap.size 120 (encV y).toArray) := Blk.new _ _ _
  have K1 := Lib.hid (K.alloc (.cells (encV y).toArray 120))
  have a0 : (w.alloc (.cells (encV y).toArray 120)).cell? ⟨g, 0, none⟩ = some (.int .u8 ((id.1.val : Nat) : Int)) := K1.out.cell 0
  have a1 : (w.alloc (.cells (encV y).toArray 120)).cell? ⟨g, 1, none⟩ = some (.int .u16 ((id.2.val : Nat) : Int)) := K1.out.cell 1
  have b0 : (w.alloc (.cells (encV y).toArray 120)).cell? ⟨w.heap.size, 0, none⟩ = some (.int .u8 ((y.1.1.val : Nat) : Int)) := K2.out.cell 0
  have b1 : (w.alloc (.cells (encV y).toArray 120)).cell? ⟨w.heap.size, 1, none⟩ = some (.int .u16 ((y.1.2.val : Nat) : Int)) := K2.out.cell 1
  have F : Hid (isLater id y = (decide (((y.1.1.val : Nat) : Int) = ((id.1.val : Nat) : Int)) && decide (((id.2.val : Nat) : Int) < ((y.1.2.val : Nat) : Int)))) := rfl
  clear K K1 K2
  generalize isLater id y = r at *
  generalize ((id.1.val : Nat) : Int) = i1 at a0 F
  generalize ((id.2.val : Nat) : Int) = i2 at a1 F
  generalize ((y.1.1.val : Nat) : Int) = j1 at b0 F
  generalize ((y.1.2.val : Nat) : Int) = j2 at b1 F
  by_cases h1 : j1 = i1
  · have d1 : (j1 == i1) = true := beq_iff_eq.2 h1
    by_cases h2 : i2 < j2
    · have F : Hid (true = r) := by rw [Hid, F.out, decide_eq_true h1, decide_eq_true h2]; rfl
      clear h1
      go_enter Tryz.func262, Tryz.ntmps262
      go_wp2
      go_ret
      exact ⟨ret_bool F.out, B0.out⟩
    · have F : Hid (false = r) := by rw [Hid, F.out, decide_eq_true h1, decide_eq_false h2]; rfl
      clear h1
      go_enter Tryz.func262, Tryz.ntmps262
      go_wp2
      go_ret
      exact ⟨ret_bool F.out, B0.out⟩
  · have d1 : (j1 == i1) = false := beq_eq_false_iff_ne.2 h1
    have F : Hid (false = r) := by rw [Hid, F.out, decide_eq_false h1]; rfl
    clear h1
    go_enter Tryz.func262, Tryz.ntmps262
    go_wp2
    go_ret
    exact ⟨ret_bool F.out, B0.out⟩
def RetI (w : World) (b : Bool) (e : Ending) (w' : World) : Prop := ∃ r : Int, e = .returned (.int .i64 r) ∧ decide (0 ≤ r) = b ∧ Below w.heap.size w w'
theorem anyV_false {vs : List VidV} {f : VidV → Bool} {k : Nat} {x : VidV} (h : vs[k]? = some x) (hk : (vs.take k).any f = false) (hx : f x = false) : (vs.take (k + 1)).any f = false := by
  rw [take_snoc' h, List.any_append, hk]; simp [hx]
theorem anyV_true {vs : List VidV} {f : VidV → Bool} {k : Nat} {x : VidV} (h : vs[k]? = some x) (hx : f x = true) : vs.any f = true := by
  rw [List.any_eq_true]; exact ⟨x, List.mem_of_getElem? h, hx⟩
set_option maxRecDepth 100000 in
set_option maxHeartbeats 2000000 in
theorem indexLater_any (vs : List VidV) (id : PidV) (w : World) (A : Option Addr) (n c g : Nat) (hm : n ≤ 40) (h : VidsAt w A n vs) (K : Blk w g 27 (encP id).toArray) :
    Calls Tryz.prog 319 #[.slice A n c, .func (.func 262) #[] #[.pointer (some ⟨g, 0, none⟩)]] w (RetI w (vs.any (isLater id))) := by
  have H := Lib.hid h
  have HG := Lib.hid K
  clear h K
  go_enter Tryz.func319, Tryz.ntmps319
  go_wp2_with fail
  go_loopw [8] (fun i wr => ∃ k : Nat, k ≤ n ∧ i = .int .i64 k ∧ Hid ((vs.take k).any (isLater id) = false) ∧ Hid (Below w.heap.size w wr)) (fun i _ => n - (intOf i).toNat)
  case atStart => exact ⟨0, by omega, rfl, rfl, Below.refl _ _⟩
  case round =>
    obtain ⟨k, hk, rfl, T, B⟩ := hrel
    have hk0 : (0 : Int) ≤ (k : Int) := by omega
    by_cases hlt : k < n
    · obtain ⟨b, o, y, rfl, hb, hy, R0⟩ := H.out.at_ hlt
      have R0 := Lib.hid (rangeAt_below R0 B.out hb)
      have HC := Lib.hid (later1_any y id wr g (HG.out.ext B.out))
      have hlk : (k : Int) < (n : Int) := by omega
      by_cases he : isLater id y = true
      · have N := Lib.hid (anyV_true hy he)
        rw [he] at HC
        clear hy T he
        go_wp2_with (refine wpList_load_mid rfl 120 _ rfl _ _ (by rfl) _ _ R0.out underVid rfl infoVid ?_)
        refine HC.out.mono ?_
        rintro e w3 ⟨rfl, b3⟩
        have B3 := Lib.hid (B.out.trans (b3.mono B.out.size))
        clear b3 HC
        go_wp2_with fail
        go_ret
        exact ⟨k, rfl, by rw [N.out]; exact decide_eq_true hk0, B3.out⟩
      · have he : isLater id y = false := by simpa using he
        have N := Lib.hid (anyV_false hy T.out he)
        rw [he] at HC
        clear hy T he
        go_wp2_with (refine wpList_load_mid rfl 120 _ rfl _ _ (by rfl) _ _ R0.out underVid rfl infoVid ?_)
        refine HC.out.mono ?_
        rintro e w3 ⟨rfl, b3⟩
        have B3 := Lib.hid (B.out.trans (b3.mono B.out.size))
        clear b3 HC
        go_wp2_with fail
        go_roundw
        case rel => exact ⟨k + 1, by omega, by go_num, N.out, B3.out⟩
        case measure => simp [intOf]; omega
    · rw [List.take_of_length_le (by rw [H.out.len]; omega)] at T
      have hlk : ¬ ((k : Int) < (n : Int)) := by omega
      go_wp2
      go_ret
      exact ⟨-1, rfl, by rw [T.out]; rfl, B.out⟩
set_option maxRecDepth 100000 in
set_option maxHeartbeats 2000000 in
theorem containsLater_any (vs : List VidV) (id : PidV) (w : World) (A : Option Addr) (n c g : Nat) (hm : n ≤ 40) (h : VidsAt w A n vs) (K : Blk w g 27 (encP id).toArray) :
    Calls Tryz.prog 261 #[.slice A n c, .func (.func 262) #[] #[.pointer (some ⟨g, 0, none⟩)]] w (RetB w (.bool (vs.any (isLater id)))) := by
  have HI := Lib.hid (indexLater_any vs id w A n c g hm h K)
  clear h K
  generalize vs.any (isLater id) = r at *
  go_enter Tryz.func261, Tryz.ntmps261
  go_wp2_with fail
  refine HI.out.mono ?_
  rintro e w1 ⟨q, rfl, hr, b1⟩
  have F := Lib.hid hr
  have B1 := Lib.hid b1
  clear hr b1 HI
  go_wp2
  go_ret
  exact ⟨ret_bool F.out, B1.out⟩
set_option maxRecDepth 100000 in
set_option maxHeartbeats 2000000 in
theorem laterO_any (id : PidV) (o : OpV) (w : World) : Calls Tryz.prog 184 #[.agg (encP id).toArray, .agg (encO o).toArray] w (RetB w (.bool ((refsO o).any (isLater id)))) := by
  have K1 : Hid (Blk ((w.alloc (.cells (encP id).toArray 27)).alloc (.cells (encO o).toArray 122)) w.heap.size 27 (encP id).toArray) := (Blk.new _ _ _).alloc _
  have K2 : Hid (Blk ((w.alloc (.cells (encP id).toArray 27)).alloc (.cells (encO o).toArray 122)) (w.heap.size + 1) 122 (encO o).toArray) := Blk.newAt (by simp) _ _
  have B0 : Hid (Below w.heap.size w ((w.alloc (.cells (encP id).toArray 27)).alloc (.cells (encO o).toArray 122))) := ((Below.refl _ _).alloc (Nat.le_refl _) _).alloc (by simp) _
  go_enter Tryz.func184, Tryz.ntmps184
  go_upto_region 1 with fail
  generalize ((w.alloc (.cells (encP id).toArray 27)).alloc (.cells (encO o).toArray 122)) = w2 at *
  have R : Hid (w2.rangeAt (w.heap.size + 1) 0 (encO o)) := blk_sub K2.out fun j v hv => by simpa using hv
  have hr := refsO_le o
  clear K2
  go_wp2_with (refine wpList_load_mid rfl 122 _ rfl _ _ (by rfl) _ _ R.out underOp rfl infoOp ?_)
  refine (refsN o _).mono ?_
  rintro e w3 ⟨A, c, rfl, hc, V, b3⟩
  have K3 := Lib.hid (K1.out.ext b3)
  have B3 := Lib.hid (B0.out.trans (b3.mono B0.out.size))
  have HC := Lib.hid (containsLater_any (refsO o) id w3 A (refsO o).length c w.heap.size (by omega) V K3.out)
  clear V b3 K1 B0 R hc
  go_wp2_with fail
  refine HC.out.mono ?_
  rintro e w4 ⟨rfl, b4⟩
  have B4 := Lib.hid (B3.out.trans (b4.mono B3.out.size))
  clear b4 HC
  go_wp2
  go_ret
  exact ⟨rfl, B4.out⟩
end Go.Proofs.YtihggkmjalofiaaGreatDoor

/- Of which kind a vertex of a patch's own is: walked. -/
namespace Go.Proofs.YtihggkmjalofiaaGreatDoor
open Go.RowKit

/-- is a vertex of another patch, or made by an operation of a kind? -/
def ownV (p : PatV) (v : VidV) (k : Nat) : Bool := decide (v.1 ≠ p.1) || match p.2.2[v.2.val]? with | some o => decide (o.1.val = k) | none => false
end Go.Proofs.YtihggkmjalofiaaGreatDoor

/- Of which kind a vertex of a patch's own is: the program's, walked. -/
namespace Go.Proofs.YtihggkmjalofiaaGreatDoor
open Go.RowKit

def kindV (p : PatV) (v : VidV) : Nat × Bool := if v.1 = p.1 then (match p.2.2[v.2.val]? with | some o => (o.1.val, true) | none => (0, false)) else (0, false)
set_option maxRecDepth 100000 in
set_option maxHeartbeats 600000 in
theorem kind_any (p : PatV) (v : VidV) (w : World) (cs : List Value) (hp : PatAt w cs p) : Calls Tryz.prog 263 #[.agg cs.toArray, .agg (encV v).toArray] w (RetB w (.tuple #[.int .u8 ((kindV p v).1 : Nat), .bool (kindV p v).2])) := by
  obtain ⟨⟨A, c, A', c', rfl, P1, O1⟩, m1, m2⟩ := hp
  have K1 : Hid (Blk ((w.alloc (.cells (patC p.1 A p.2.1.length c A' p.2.2.length c').toArray 31)).alloc (.cells (encV v).toArray 120)) w.heap.size 31 (patC p.1 A p.2.1.length c A' p.2.2.length c').toArray) := (Blk.new _ _ _).alloc _
  have K2 : Hid (Blk ((w.alloc (.cells (patC p.1 A p.2.1.length c A' p.2.2.length c').toArray 31)).alloc (.cells (encV v).toArray 120)) (w.heap.size + 1) 120 (encV v).toArray) := Blk.newAt (by simp) _ _
  have B0 : Hid (Below w.heap.size w ((w.alloc (.cells (patC p.1 A p.2.1.length c A' p.2.2.length c').toArray 31)).alloc (.cells (encV v).toArray 120))) := ((Below.refl _ _).alloc (Nat.le_refl _) _).alloc (by simp) _
  go_enter Tryz.func263, Tryz.ntmps263
  go_upto_region 1 with fail
  generalize ((w.alloc (.cells (patC p.1 A p.2.1.length c A' p.2.2.length c').toArray 31)).alloc (.cells (encV v).toArray 120)) = w2 at *
  have O1 := Lib.hid (O1.ext B0.out)
  have a0 : w2.cell? ⟨w.heap.size, 0, none⟩ = some (.int .u8 ((p.1.1.val : Nat) : Int)) := K1.out.cell 0
  have a1 : w2.cell? ⟨w.heap.size, 1, none⟩ = some (.int .u16 ((p.1.2.val : Nat) : Int)) := K1.out.cell 1
  have b0 : w2.cell? ⟨w.heap.size + 1, 0, none⟩ = some (.int .u8 ((v.1.1.val : Nat) : Int)) := K2.out.cell 0
  have b1 : w2.cell? ⟨w.heap.size + 1, 1, none⟩ = some (.int .u16 ((v.1.2.val : Nat) : Int)) := K2.out.cell 1
  have a3 : w2.cell? ⟨w.heap.size, 3, none⟩ = some (.slice A' p.2.2.length c') := K1.out.cell 3
  have b2 : w2.cell? ⟨w.heap.size + 1, 2, none⟩ = some (.int .u8 ((v.2.val : Nat) : Int)) := K2.out.cell 2
  clear K1 K2 P1
  generalize w.heap.size + 1 = g2 at *
  generalize w.heap.size = g1 at a0 a1 a3 ⊢
  have NE := fun u => neqP v.1 p.1 u
  have hm2 := m2
  unfold maxLen at hm2
  have n0 : 0 ≤ ((v.2.val : Nat) : Int) := by omega
  have n1 : ((v.2.val : Nat) : Int) < 256 := by have := v.2.isLt; omega
  by_cases e : v.1 = p.1
  · have NE' : ∀ u : World, (binOp .neq 27 (.agg #[.int .u8 ((v.1.1.val : Nat) : Int), .int .u16 ((v.1.2.val : Nat) : Int)]) (.agg #[.int .u8 ((p.1.1.val : Nat) : Int), .int .u16 ((p.1.2.val : Nat) : Int)])).run Tryz.prog u = .ok (.bool false) u := fun u => (NE u).trans (by rw [decide_eq_true e]; rfl)
    have F : Hid ((match p.2.2[v.2.val]? with | some o => (o.1.val, true) | none => (0, false)) = kindV p v) := by unfold kindV; rw [if_pos e]; rfl
    clear NE e
    generalize ((p.1.1.val : Nat) : Int) = pa at a0 NE'
    generalize ((p.1.2.val : Nat) : Int) = ps at a1 NE'
    generalize ((v.1.1.val : Nat) : Int) = va at b0 NE'
    generalize ((v.1.2.val : Nat) : Int) = vs at b1 NE'
    by_cases hlt : v.2.val < p.2.2.length
    · obtain ⟨b, o, x, rfl, hb, hx, R3, hok⟩ := O1.out.at_ hlt
      rw [hx] at F
      have t7 : w2.cell? ⟨b, o + v.2.val * 8, none⟩ = some (.int .u8 ((x.1.val : Nat) : Int)) := R3 0 _ rfl
      have hl : ((v.2.val : Nat) : Int) < (p.2.2.length : Int) := by omega
      have F : Hid ((x.1.val, true) = kindV p v) := F.out
      clear hx R3 hok
      generalize v.2.val = nv at *
      generalize x.1.val = kx at *
      go_wp2
      refine bodyPost_ret (v := (.tuple #[.int .u8 (kx : Int), .bool true])) ?_ rfl ⟨by rw [← F.out], B0.out⟩
      simp [results, Tryz.results263, go_sem]
    · rw [List.getElem?_eq_none (by omega)] at F
      have hl : decide (((v.2.val : Nat) : Int) < (p.2.2.length : Int)) = false := decide_eq_false (by omega)
      have hl2 : decide (v.2.val < p.2.2.length) = false := decide_eq_false hlt
      have hl3 : decide ((p.2.2.length : Int) ≤ ((v.2.val : Nat) : Int)) = true := decide_eq_true (by omega)
      have hl4 : decide (p.2.2.length ≤ v.2.val) = true := decide_eq_true (by omega)
      have F : Hid ((0, false) = kindV p v) := F.out
      generalize v.2.val = nv at *
      go_wp2
      refine bodyPost_ret (v := (.tuple #[.int .u8 0, .bool false])) ?_ rfl ⟨by rw [← F.out]; rfl, B0.out⟩
      simp [results, Tryz.results263, go_sem]
  · have NE' : ∀ u : World, (binOp .neq 27 (.agg #[.int .u8 ((v.1.1.val : Nat) : Int), .int .u16 ((v.1.2.val : Nat) : Int)]) (.agg #[.int .u8 ((p.1.1.val : Nat) : Int), .int .u16 ((p.1.2.val : Nat) : Int)])).run Tryz.prog u = .ok (.bool true) u := fun u => (NE u).trans (by rw [decide_eq_false e]; rfl)
    have F : Hid ((0, false) = kindV p v) := by unfold kindV; rw [if_neg e]; rfl
    clear NE e
    generalize ((p.1.1.val : Nat) : Int) = pa at a0 NE'
    generalize ((p.1.2.val : Nat) : Int) = ps at a1 NE'
    generalize ((v.1.1.val : Nat) : Int) = va at b0 NE'
    generalize ((v.1.2.val : Nat) : Int) = vs at b1 NE'
    go_wp2
    refine bodyPost_ret (v := (.tuple #[.int .u8 0, .bool false])) ?_ rfl ⟨by rw [← F.out]; rfl, B0.out⟩
    simp [results, Tryz.results263, go_sem]
end Go.Proofs.YtihggkmjalofiaaGreatDoor

/- Whether a patch may be: the program's way of asking and the document's say the same. Plain. -/
namespace Go.Proofs.YtihggkmjalofiaaGreatDoor
open Go.RowKit

instance : DecidableEq OpV := fun x y => decidable_of_iff (x.1 = y.1 ∧ x.2.1 = y.2.1 ∧ x.2.2.1 = y.2.2.1 ∧ x.2.2.2 = y.2.2.2) ⟨fun ⟨a, b, c, d⟩ => Prod.ext a (Prod.ext b (Prod.ext c d)), fun h => by rw [h]; exact ⟨rfl, rfl, rfl, rfl⟩⟩
instance (x : OpV) (l : List OpV) : Decidable (x ∈ l) := @List.instDecidableMemOfLawfulBEq OpV instBEqOfDecidableEq inferInstance x l
def atOf (p : PatV) (v : VidV) : Option VidV := (p.2.2[v.2.val]?).map (·.2.1)
def wantN (o : OpV) : Nat := if o.1.val = 4 then 3 else 1
def bothOwn (p : PatV) (o : OpV) : Bool := decide (o.1.val = 4) && (decide (o.2.1.1 = p.1) && decide (o.2.2.1.1 = p.1))
def sameAt (p : PatV) (o : OpV) : Bool := decide (atOf p o.2.1 = atOf p o.2.2.1)
def fitV (p : PatV) (o : OpV) (v : VidV) : Bool := !((kindV p v).2 && decide ((kindV p v).1 ≠ wantN o))
def suitsV (p : PatV) (o : OpV) : Bool := (refsO o).all (fitV p o) && (!bothOwn p o || sameAt p o)
def tailV (p : PatV) (o : OpV) : Bool :=
  if o.1.val = 2 ∨ o.1.val = 3 then ownV p o.2.1 1
  else if o.1.val = 4 then ownV p o.2.1 3 && (ownV p o.2.2.1 3 && (decide (o.2.1.1 ≠ p.1) || (decide (o.2.2.1.1 ≠ p.1) || sameAt p o)))
  else true
def oneP (p : PatV) (i : Nat) (o : OpV) : Bool := goodO p.1 i o && (!((refsO o).any (isLater p.1)) && ((decide (o.1.val = 5) || suitsV p o) && (makesB ((o.1.val : Nat) : Int) || !decide (o ∈ p.2.2.take i))))
def oneR (p : PatV) (i : Nat) (o : OpV) : Bool := goodO p.1 i o && (!((refsO o).any (isLater p.1)) && ((!decide (4 ≤ o.1.val) || !decide (o ∈ p.2.2.take i)) && tailV p o))

theorem goodO_refs {id : PidV} {i : Int} {o : OpV} (h : goodO id i o = true) : ∀ v ∈ refsO o, v.1 = id → ((v.2.val : Nat) : Int) < i := by
  intro v hv he
  unfold goodO opGood at h
  rw [refsO_old, Bool.and_eq_true] at h
  have h1 := List.all_eq_true.1 h.1 (oldV v) (List.mem_map.2 ⟨v, hv, rfl⟩)
  unfold refOk at h1
  rw [Bool.and_eq_true] at h1
  have h2 := h1.2
  have hp : peqV ((id.1.val : Nat) : Int) ((id.2.val : Nat) : Int) (oldV v) = true := by
    subst he
    simp [peqV, oldV]
  rw [hp] at h2
  have h3 : decide (i ≤ (oldV v).n) = false := by
    cases h : decide (i ≤ (oldV v).n)
    · rfl
    · rw [h] at h2; cases h2
  have h4 : ¬ (i ≤ ((v.2.val : Nat) : Int)) := of_decide_eq_false h3
  omega
theorem goodO_kind {id : PidV} {i : Int} {o : OpV} (h : goodO id i o = true) : 1 ≤ o.1.val ∧ o.1.val ≤ 5 := by
  unfold goodO opGood at h
  rw [Bool.and_eq_true] at h
  have h2 := h.2
  unfold tailOk at h2
  by_cases c1 : o.1.val = 1
  · omega
  by_cases c2 : o.1.val = 2
  · omega
  by_cases c3 : o.1.val = 3
  · omega
  by_cases c4 : o.1.val = 4
  · omega
  by_cases c5 : o.1.val = 5
  · omega
  rw [if_neg (by omega), if_neg (by omega), if_neg (by omega), if_neg (by omega), if_neg (by omega)] at h2
  cases h2
theorem fit_own {p : PatV} {o : OpV} {v : VidV} (h : v.1 = p.1 → v.2.val < p.2.2.length) : fitV p o v = ownV p v (wantN o) := by
  unfold fitV kindV ownV
  by_cases e : v.1 = p.1
  · rw [if_pos e, List.getElem?_eq_getElem (h e), decide_eq_false (show ¬ v.1 ≠ p.1 from fun hn => hn e)]
    simp
  · rw [if_neg e, decide_eq_true e]
    simp
theorem ones_eq {p : PatV} {i : Nat} {o : OpV} (hi : i < p.2.2.length) : oneP p i o = oneR p i o := by
  unfold oneP oneR
  cases hg : goodO p.1 i o
  · rfl
  rw [Bool.true_and, Bool.true_and]
  have hr := goodO_refs hg
  obtain ⟨k1, k5⟩ := goodO_kind hg
  have hf : ∀ v ∈ refsO o, fitV p o v = ownV p v (wantN o) := fun v hv => fit_own fun e => by have := hr v hv e; omega
  congr 1
  have hm : makesB ((o.1.val : Nat) : Int) = decide (o.1.val ≤ 3) := by
    by_cases h : o.1.val ≤ 3
    · rw [makesB_t (by omega), decide_eq_true h]
    · rw [makesB_f (by omega), decide_eq_false h]
  have hd : makesB ((o.1.val : Nat) : Int) = !decide (4 ≤ o.1.val) := by
    rw [hm]
    by_cases h : o.1.val ≤ 3
    · rw [decide_eq_true h, decide_eq_false (by omega)]; rfl
    · rw [decide_eq_false h, decide_eq_true (by omega)]; rfl
  rw [hd, Bool.and_comm]
  congr 1
  unfold suitsV tailV
  by_cases c23 : o.1.val = 2 ∨ o.1.val = 3
  · have e1 : refsO o = [o.2.1] := by unfold refsO; rw [if_pos (by omega)]
    rw [if_pos c23, decide_eq_false (by omega)]
    have e2 : bothOwn p o = false := by unfold bothOwn; rw [decide_eq_false (by omega)]; rfl
    rw [e1] at hf ⊢
    rw [e2]
    have := hf o.2.1 (by simp)
    simp [this, wantN, show ¬ o.1.val = 4 by omega]
  · rw [if_neg c23]
    by_cases c4 : o.1.val = 4
    · have e1 : refsO o = [o.2.1, o.2.2.1] := by unfold refsO; rw [if_neg (by omega), if_pos c4]
      rw [if_pos c4, decide_eq_false (by omega)]
      rw [e1] at hf ⊢
      have f1 := hf o.2.1 (by simp)
      have f2 := hf o.2.2.1 (by simp)
      have hw : wantN o = 3 := by unfold wantN; rw [if_pos c4]
      rw [hw] at f1 f2
      simp only [List.all_cons, List.all_nil, f1, f2, bothOwn, c4, decide_true, Bool.true_and, Bool.and_true, Bool.false_or]
      generalize ownV p o.2.1 3 = x
      generalize ownV p o.2.2.1 3 = y
      generalize sameAt p o = z
      by_cases q1 : o.2.1.1 = p.1 <;> by_cases q2 : o.2.2.1.1 = p.1 <;> simp [q1, q2, Bool.and_assoc]
    · rw [if_neg c4]
      have e2 : bothOwn p o = false := by unfold bothOwn; rw [decide_eq_false c4]; rfl
      by_cases c5 : o.1.val = 5
      · simp [c5]
      · have e1 : refsO o = [] := by unfold refsO; rw [if_neg (by omega), if_neg c4]
        simp [e1, e2]
/-- all that stand ahead of place k may be -/
def onesB (p : PatV) (k : Nat) : Bool := (List.range k).all fun i => match p.2.2[i]? with | some o => oneR p i o | none => true
theorem onesB_snoc {p : PatV} {k : Nat} {o : OpV} (h : p.2.2[k]? = some o) : onesB p (k + 1) = (onesB p k && oneR p k o) := by
  unfold onesB
  rw [List.range_succ, List.all_append]
  simp [h]
theorem onesB_false {p : PatV} {k n : Nat} {o : OpV} (h : p.2.2[k]? = some o) (hn : k < n) (hf : oneR p k o = false) : onesB p n = false := by
  unfold onesB
  rw [List.all_eq_false]
  exact ⟨k, List.mem_range.2 hn, by rw [h]; simp [hf]⟩
theorem onesB_get {p : PatV} {n k : Nat} {o : OpV} (h : onesB p n = true) (hk : k < n) (ho : p.2.2[k]? = some o) : oneR p k o = true := by
  unfold onesB at h
  have := List.all_eq_true.1 h k (List.mem_range.2 hk)
  rwa [ho] at this
def patB (p : PatV) : Bool := pidOk ((p.1.1.val : Nat) : Int) ((p.1.2.val : Nat) : Int) && (decide (1 ≤ p.2.2.length) && (decide (p.2.2.length ≤ 200) && (decide (p.2.1 = depsV p.1 p.2.2) && onesB p p.2.2.length)))
end Go.Proofs.YtihggkmjalofiaaGreatDoor
