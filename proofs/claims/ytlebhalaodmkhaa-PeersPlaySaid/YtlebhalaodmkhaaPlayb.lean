/- The document's peers: asked, heard of, a tick. -/
import Derived.Test.YtlebhalaodmkhaaPlay
namespace Go.Proofs.Ytlebhalaodmkhaa
open Go.RowKit

theorem intSl : SlT Try.prog 44 3 1 8 := slT_of Try.underlying44 (z := .int .i64 0) (by kernel_rfl) rfl (by omega)
theorem u8Sl : SlT Try.prog 43 5 1 1 := slT_of Try.underlying43 (z := .int .u8 0) (by kernel_rfl) rfl (by omega)
def setT (L T : List Int) (n v : Int) : List Int := if 0 ≤ placeL L n then T.set (placeL L n).toNat v else T
theorem setT_len (L T : List Int) (n v : Int) : (setT L T n v).length = T.length := by unfold setT; split <;> simp
theorem take_push (l : List Int) (k : Nat) (h : k < l.length) : ((l.take k).map (Value.int .i64)) ++ [Value.int .i64 l[k]] = (l.take (k + 1)).map (Value.int .i64) := by
  rw [List.take_succ_eq_append_getElem h, List.map_append]; rfl
theorem Sl.farCell {w : World} {B size n : Nat} {A : Option Addr} {xs : List Value} (h : Sl w B size A n xs) {p : Addr} (hA : ∀ a, A = some a → a.block ≠ p.block) (u : Value) : Sl (w.setCell p u) B size A n xs :=
  ⟨h.1, fun hn => by
    obtain ⟨b, o, e, hb, hc⟩ := h.2 hn
    refine ⟨b, o, e, hb, fun j hj => ?_⟩
    rw [World.cell?_setCell_other w p ⟨b, o + j, none⟩ u (fun he => hA _ e (by first | (subst he; rfl) | rw [he]))]
    exact hc j hj⟩
theorem own_full {w : World} {base : Nat} {e : TypeId} {n : Nat} {v : Value} {N : List Int} (h : w.ownsRow base e 1 v n ((N.take n).map (Value.int .i64))) (hl : N.length = n) : w.ownsRow base e 1 v n (N.map (Value.int .i64)) := by
  rw [List.take_of_length_le (by omega)] at h; exact h
theorem sl_of_own_at {w : World} {base : Nat} {e : TypeId} {n : Nat} {v : Value} {xs : List Value} (h : w.ownsRow base e 1 v n xs) : ∃ A c, v = .slice A n c ∧ Sl w w.heap.size 1 A n xs ∧ ∀ a, A = some a → base ≤ a.block := by
  obtain ⟨A, c, h1, _, h2⟩ := Sl.of_own h
  subst h1
  exact ⟨A, c, rfl, h2, fun a ha => by subst ha; exact (h.lt a.block rfl).1⟩
theorem sl_of_own' {w : World} {base : Nat} {e : TypeId} {n : Nat} {v : Value} {xs : List Value} (h : w.ownsRow base e 1 v n xs) : ∃ A c, v = .slice A n c ∧ Sl w w.heap.size 1 A n xs := by
  obtain ⟨A, c, h1, _, h2⟩ := Sl.of_own h; exact ⟨A, c, h1, h2⟩
/-- the ticks are others, all else is as it was -/
def RetT (w : World) (A : Option Addr) (m c : Nat) (p : Int) (T : List Int) (e : Ending) (w' : World) : Prop :=
  ∃ A' c', e = .returned (refC A A' m T.length c c' p) ∧ Sl w' w'.heap.size 1 A' T.length (T.map (Value.int .i64)) ∧ Below w.heap.size w w' ∧ ∀ a, A' = some a → w.heap.size ≤ a.block
theorem infoP : (Try.prog.info? 46).map (·.size) = some 3 := by kernel_rfl

set_option maxRecDepth 100000 in
set_option maxHeartbeats 2000000 in
theorem rset_any (L T : List Int) (A A' : Option Addr) (c c' : Nat) (p n v : Int) (w : World) (hL : Sl w w.heap.size 1 A L.length (L.map (Value.int .u8))) (hT : Sl w w.heap.size 1 A' T.length (T.map (Value.int .i64))) (hlt : L.length = T.length) (hl : L.length ≤ 100) :
    Calls Try.prog 46 #[refC A A' L.length T.length c c' p, .int .u8 n, .int .i64 v] w (RetT w A L.length c p (setT L T n v)) := by
  have HP := Lib.hid (fun w1 h => place_any L A A' T.length c c' p n w1 h hl)
  have K0 : Hid (Blk ((w.alloc (.cells #[.slice A L.length c, .slice A' T.length c', .int .i64 p] 46)).alloc (.cells #[.slice none 0 0, .slice none 0 0, .int .i64 0] 46)) w.heap.size 46 #[.slice A L.length c, .slice A' T.length c', .int .i64 p]) := (Blk.new _ _ _).alloc _
  have K1 : Hid (Blk ((w.alloc (.cells #[.slice A L.length c, .slice A' T.length c', .int .i64 p] 46)).alloc (.cells #[.slice none 0 0, .slice none 0 0, .int .i64 0] 46)) (w.heap.size + 1) 46 #[.slice none 0 0, .slice none 0 0, .int .i64 0]) := Blk.newAt (by simp) _ _
  have B0 : Hid (Below w.heap.size w ((w.alloc (.cells #[.slice A L.length c, .slice A' T.length c', .int .i64 p] 46)).alloc (.cells #[.slice none 0 0, .slice none 0 0, .int .i64 0] 46))) := ((Below.refl _ _).alloc (Nat.le_refl _) _).alloc (by simp) _
  have HL := Lib.hid (hL.up B0.out (Nat.le_refl _))
  have HT := Lib.hid (hT.up B0.out (Nat.le_refl _))
  have HLT := Lib.hid hlt
  have hl2 : T.length ≤ 100 := by omega
  have F : Hid (setT L T n v = if 0 ≤ placeL L n then T.set (placeL L n).toNat v else T) := rfl
  have FL := Lib.hid (setT_len L T n v)
  have HK := Lib.hid (placeL_lt (L := L) (n := n))
  generalize placeL L n = r at *
  clear hL hT hlt
  have G : Hid (∀ k, (h : k < T.length) → (setT L T n v)[k]? = some (if (k : Int) = r then v else T[k])) := by
    intro k h
    rw [F.out]
    rcases HK.out with rfl | ⟨i, hi, rfl⟩
    · rw [if_neg (by omega), if_neg (by omega), List.getElem?_eq_getElem h]
    · rw [if_pos (by omega), Int.toNat_natCast, List.getElem?_set]
      by_cases e : i = k
      · subst e; rw [if_pos rfl, if_pos h, if_pos rfl]
      · rw [if_neg e, if_neg (by omega), List.getElem?_eq_getElem h]
  generalize setT L T n v = N at *
  clear F
  go_enter Try.func46, Try.ntmps46
  go_wp2_with fail
  generalize ((w.alloc (.cells #[.slice A L.length c, .slice A' T.length c', .int .i64 p] 46)).alloc (.cells #[.slice none 0 0, .slice none 0 0, .int .i64 0] 46)) = w0 at *
  refine (HP.out _ HL.out).mono ?_
  rintro e w1 ⟨rfl, hb⟩
  have HT1 := Lib.hid (HT.out.up hb (Nat.le_refl _))
  have K2 := Lib.hid (K0.out.ext hb)
  have K3 := Lib.hid (K1.out.ext hb)
  have B1 := Lib.hid (ext_trans B0.out hb)
  clear hb HP HL HT K0 K1 B0
  have O0 := Lib.hid (World.ownsRow_nil w1 w1.heap.size 3 1)
  have k1 := K2.out.cell 1
  simp at k1
  go_wp2_with fail
  go_loopw [8, 9] (fun s z wr => ∃ k : Nat, k ≤ T.length ∧ z = .int .i64 k ∧ wr.ownsRow w1.heap.size 3 1 s k ((N.take k).map (Value.int .i64)) ∧ Below w1.heap.size w1 wr) (fun _ z _ => T.length - (intOf z).toNat)
  case atStart => exact ⟨0, by omega, rfl, by simpa using O0.out, Below.refl _ _⟩
  case round =>
    obtain ⟨k, hk, rfl, hown, hbl⟩ := hrel
    clear O0
    have O := Lib.hid hown
    have B := Lib.hid hbl
    clear hown hbl
    have j1 := (K2.out.below B.out K2.out.lt).cell 1
    have j0 := (K2.out.below B.out K2.out.lt).cell 0
    have j2 := (K2.out.below B.out K2.out.lt).cell 2
    simp at j0 j1 j2
    by_cases hlt : k < T.length
    · obtain ⟨sb, so, u, rfl, hsb, hu, hc⟩ := HT1.out.at_ hlt
      have hku : u = .int .i64 T[k] := by
        rw [List.getElem?_map, List.getElem?_eq_getElem hlt] at hu; simpa using hu.symm
      subst hku
      have hkN : k < N.length := by rw [FL.out]; exact hlt
      have TP := Lib.hid (take_push N k hkN)
      have gk := G.out k hlt
      rw [List.getElem?_eq_getElem hkN] at gk
      injection gk with gk
      rw [gk] at TP
      have hc' : wr.cell? ⟨sb, so + k, none⟩ = some (.int .i64 T[k]) := by rw [B.out.cell (p := ⟨sb, so + k, none⟩) hsb]; exact hc
      clear hc hu gk G
      generalize T[k] = x at *
      have b0 : (0 : Int) ≤ (k : Int) := by omega
      have b1 : (k : Int) < (T.length : Int) := by omega
      by_cases he : (k : Int) = r
      · rw [if_pos he] at TP
        have hd : ((k : Int) == r) = true := by simpa using he
        clear he
        go_wp2_with (at_builtin; refine wpList_push intSl O.out [.int .i64 v] rfl (by simp [Value.oneCell']) B.out.size (by omega) (by unfold maxLen; omega) (by rfl) (by rfl) (by rfl) ?_; intro v1 w2 own1 bel1)
        go_roundw
        case rel => exact ⟨k + 1, by omega, by go_num, by rw [← TP.out]; exact own1, B.out.trans bel1⟩
        case measure => simp [intOf]; omega
      · rw [if_neg he] at TP
        have hd : ((k : Int) == r) = false := by simpa using he
        clear he
        go_wp2_with (at_builtin; refine wpList_push intSl O.out [.int .i64 x] rfl (by simp [Value.oneCell']) B.out.size (by omega) (by unfold maxLen; omega) (by rfl) (by rfl) (by rfl) ?_; intro v1 w2 own1 bel1)
        go_roundw
        case rel => exact ⟨k + 1, by omega, by go_num, by rw [← TP.out]; exact own1, B.out.trans bel1⟩
        case measure => simp [intOf]; omega
    · have hk' : k = T.length := by omega
      subst hk'
      have OE := Lib.hid (own_full O.out FL.out)
      obtain ⟨A2, c2, hv, hs, hA2⟩ := sl_of_own_at OE.out
      subst hv
      have L3 := Lib.hid (K3.out.below B.out K3.out.lt)
      have lt3 := K3.out.lt
      have lt0 := B1.out.size
      have nA : Hid (∀ a, A2 = some a → a.block ≠ w.heap.size + 1) := fun a ha => by have := hA2 a ha; omega
      have nB : Hid (∀ a, A2 = some a → w.heap.size ≤ a.block) := fun a ha => by have := hA2 a ha; omega
      have f0 := L3.out.fr 0
      have f1 := L3.out.fr 1
      have f2 := L3.out.fr 2
      have c0 := L3.out.cell 0
      have c1 := L3.out.cell 1
      have c2' := L3.out.cell 2
      simp at c0 c1 c2'
      have HS := Lib.hid hs
      have BW := Lib.hid (B1.out.trans (B.out.mono lt0))
      clear hs O G hA2 OE
      go_wp2
      refine bodyPost_ret (results_cell_row rfl _ _ (w.heap.size + 1) _ #[.slice A L.length c, .slice A2 T.length c2, .int .i64 p] _ _ rfl (((L3.out.set_ 0 _).set_ 1 _).set_ 2 _) Try.underlying46 rfl infoP) rfl ?_
      unfold RetT
      rw [FL.out]
      refine ⟨A2, c2, rfl, ?_, ((BW.out.setCell (p := ⟨w.heap.size + 1, 0, none⟩) (by simp) _).setCell (p := ⟨w.heap.size + 1, 1, none⟩) (by simp) _).setCell (p := ⟨w.heap.size + 1, 2, none⟩) (by simp) _, nB.out⟩
      have := ((HS.out.farCell (p := ⟨w.heap.size + 1, 0, none⟩) nA.out (.slice A L.length c)).farCell (p := ⟨w.heap.size + 1, 1, none⟩) nA.out (.slice A2 T.length c2)).farCell (p := ⟨w.heap.size + 1, 2, none⟩) nA.out (.int .i64 p)
      simpa [World.setCell] using this

set_option maxRecDepth 100000 in
set_option maxHeartbeats 2000000 in
theorem rasked_any (L T : List Int) (A A' : Option Addr) (c c' : Nat) (p n : Int) (w : World) (hL : Sl w w.heap.size 1 A L.length (L.map (Value.int .u8))) (hT : Sl w w.heap.size 1 A' T.length (T.map (Value.int .i64))) (hlt : L.length = T.length) (hl : L.length ≤ 100) :
    Calls Try.prog 31 #[refC A A' L.length T.length c c' p, .int .u8 n] w (RetT w A L.length c p (setT L T n p)) := by
  have HP := Lib.hid (fun w1 h h' => rset_any L T A A' c c' p n p w1 h h' hlt hl)
  have K0 : Hid (Blk ((w.alloc (.cells #[.slice A L.length c, .slice A' T.length c', .int .i64 p] 46)).alloc (.cells #[.slice none 0 0, .slice none 0 0, .int .i64 0] 46)) w.heap.size 46 #[.slice A L.length c, .slice A' T.length c', .int .i64 p]) := (Blk.new _ _ _).alloc _
  have K1 : Hid (Blk ((w.alloc (.cells #[.slice A L.length c, .slice A' T.length c', .int .i64 p] 46)).alloc (.cells #[.slice none 0 0, .slice none 0 0, .int .i64 0] 46)) (w.heap.size + 1) 46 #[.slice none 0 0, .slice none 0 0, .int .i64 0]) := Blk.newAt (by simp) _ _
  have B0 : Hid (Below w.heap.size w ((w.alloc (.cells #[.slice A L.length c, .slice A' T.length c', .int .i64 p] 46)).alloc (.cells #[.slice none 0 0, .slice none 0 0, .int .i64 0] 46))) := ((Below.refl _ _).alloc (Nat.le_refl _) _).alloc (by simp) _
  have HL := Lib.hid (hL.up B0.out (Nat.le_refl _))
  have HT := Lib.hid (hT.up B0.out (Nat.le_refl _))
  generalize setT L T n p = N at *
  clear hL hT hlt
  go_enter Try.func31, Try.ntmps31
  go_wp2_with fail
  generalize ((w.alloc (.cells #[.slice A L.length c, .slice A' T.length c', .int .i64 p] 46)).alloc (.cells #[.slice none 0 0, .slice none 0 0, .int .i64 0] 46)) = w0 at *
  refine (HP.out _ HL.out HT.out).mono ?_
  rintro e w1 ⟨A2, c2, rfl, hs, hb, hA2⟩
  have L3 := Lib.hid (K1.out.ext hb)
  have lt3 := K1.out.lt
  have nA : Hid (∀ a, A2 = some a → a.block ≠ w.heap.size + 1) := fun a ha => by have := hA2 a ha; omega
  have nB : Hid (∀ a, A2 = some a → w.heap.size ≤ a.block) := fun a ha => by have := hA2 a ha; omega
  have HS := Lib.hid hs
  have BW := Lib.hid (ext_trans B0.out hb)
  have f0 := L3.out.fr 0
  have f1 := L3.out.fr 1
  have f2 := L3.out.fr 2
  have c0 := L3.out.cell 0
  have c1 := L3.out.cell 1
  have c2' := L3.out.cell 2
  simp at c0 c1 c2'
  clear hs hb hA2 HP HL HT K0 K1 B0
  go_wp2
  refine bodyPost_ret (results_cell_row rfl _ _ (w.heap.size + 1) _ #[.slice A L.length c, .slice A2 N.length c2, .int .i64 p] _ _ rfl (((L3.out.set_ 0 _).set_ 1 _).set_ 2 _) Try.underlying46 rfl infoP) rfl ?_
  unfold RetT
  refine ⟨A2, c2, rfl, ?_, ((BW.out.setCell (p := ⟨w.heap.size + 1, 0, none⟩) (by simp) _).setCell (p := ⟨w.heap.size + 1, 1, none⟩) (by simp) _).setCell (p := ⟨w.heap.size + 1, 2, none⟩) (by simp) _, nB.out⟩
  have := ((HS.out.farCell (p := ⟨w.heap.size + 1, 0, none⟩) nA.out (.slice A L.length c)).farCell (p := ⟨w.heap.size + 1, 1, none⟩) nA.out (.slice A2 N.length c2)).farCell (p := ⟨w.heap.size + 1, 2, none⟩) nA.out (.int .i64 p)
  simpa [World.setCell] using this

set_option maxRecDepth 100000 in
set_option maxHeartbeats 2000000 in
theorem rheard_any (L T : List Int) (A A' : Option Addr) (c c' : Nat) (p n : Int) (w : World) (hL : Sl w w.heap.size 1 A L.length (L.map (Value.int .u8))) (hT : Sl w w.heap.size 1 A' T.length (T.map (Value.int .i64))) (hlt : L.length = T.length) (hl : L.length ≤ 100) :
    Calls Try.prog 33 #[refC A A' L.length T.length c c' p, .int .u8 n] w (RetT w A L.length c p (setT L T n 0)) := by
  have HP := Lib.hid (fun w1 h h' => rset_any L T A A' c c' p n 0 w1 h h' hlt hl)
  have K0 : Hid (Blk ((w.alloc (.cells #[.slice A L.length c, .slice A' T.length c', .int .i64 p] 46)).alloc (.cells #[.slice none 0 0, .slice none 0 0, .int .i64 0] 46)) w.heap.size 46 #[.slice A L.length c, .slice A' T.length c', .int .i64 p]) := (Blk.new _ _ _).alloc _
  have K1 : Hid (Blk ((w.alloc (.cells #[.slice A L.length c, .slice A' T.length c', .int .i64 p] 46)).alloc (.cells #[.slice none 0 0, .slice none 0 0, .int .i64 0] 46)) (w.heap.size + 1) 46 #[.slice none 0 0, .slice none 0 0, .int .i64 0]) := Blk.newAt (by simp) _ _
  have B0 : Hid (Below w.heap.size w ((w.alloc (.cells #[.slice A L.length c, .slice A' T.length c', .int .i64 p] 46)).alloc (.cells #[.slice none 0 0, .slice none 0 0, .int .i64 0] 46))) := ((Below.refl _ _).alloc (Nat.le_refl _) _).alloc (by simp) _
  have HL := Lib.hid (hL.up B0.out (Nat.le_refl _))
  have HT := Lib.hid (hT.up B0.out (Nat.le_refl _))
  generalize setT L T n 0 = N at *
  clear hL hT hlt
  go_enter Try.func33, Try.ntmps33
  go_wp2_with fail
  generalize ((w.alloc (.cells #[.slice A L.length c, .slice A' T.length c', .int .i64 p] 46)).alloc (.cells #[.slice none 0 0, .slice none 0 0, .int .i64 0] 46)) = w0 at *
  refine (HP.out _ HL.out HT.out).mono ?_
  rintro e w1 ⟨A2, c2, rfl, hs, hb, hA2⟩
  have L3 := Lib.hid (K1.out.ext hb)
  have lt3 := K1.out.lt
  have nA : Hid (∀ a, A2 = some a → a.block ≠ w.heap.size + 1) := fun a ha => by have := hA2 a ha; omega
  have nB : Hid (∀ a, A2 = some a → w.heap.size ≤ a.block) := fun a ha => by have := hA2 a ha; omega
  have HS := Lib.hid hs
  have BW := Lib.hid (ext_trans B0.out hb)
  have f0 := L3.out.fr 0
  have f1 := L3.out.fr 1
  have f2 := L3.out.fr 2
  have c0 := L3.out.cell 0
  have c1 := L3.out.cell 1
  have c2' := L3.out.cell 2
  simp at c0 c1 c2'
  clear hs hb hA2 HP HL HT K0 K1 B0
  go_wp2
  refine bodyPost_ret (results_cell_row rfl _ _ (w.heap.size + 1) _ #[.slice A L.length c, .slice A2 N.length c2, .int .i64 p] _ _ rfl (((L3.out.set_ 0 _).set_ 1 _).set_ 2 _) Try.underlying46 rfl infoP) rfl ?_
  unfold RetT
  refine ⟨A2, c2, rfl, ?_, ((BW.out.setCell (p := ⟨w.heap.size + 1, 0, none⟩) (by simp) _).setCell (p := ⟨w.heap.size + 1, 1, none⟩) (by simp) _).setCell (p := ⟨w.heap.size + 1, 2, none⟩) (by simp) _, nB.out⟩
  have := ((HS.out.farCell (p := ⟨w.heap.size + 1, 0, none⟩) nA.out (.slice A L.length c)).farCell (p := ⟨w.heap.size + 1, 1, none⟩) nA.out (.slice A2 N.length c2)).farCell (p := ⟨w.heap.size + 1, 2, none⟩) nA.out (.int .i64 p)
  simpa [World.setCell] using this
end Go.Proofs.Ytlebhalaodmkhaa
