/- Whether two messages are the same: walked, the program's and the document's. -/
import Derived.Test.YtdafiipedlglpaaGreatDoorMsgd
import Derived.Test.YtdafiipedlglpaaGreatDoorLists
import Derived.Test.YtdafiipedlglpaaGreatDoorPaws
import Derived.Test.YtdafiipedlglpaaGreatDoorOps
import Derived.Test.YtdafiipedlglpaaGreatDoorPati
namespace Go.Proofs.YtdafiipedlglpaaGreatDoor
open Go.RowKit

theorem takeEq_snoc {α : Type} {l m : List α} {k : Nat} {x : α} (h : l.take k = m.take k) (hl : l[k]? = some x) (hm : m[k]? = some x) : l.take (k + 1) = m.take (k + 1) := by
  rw [List.take_add_one, List.take_add_one, h, hl, hm]
theorem takeEq_no {α : Type} {l m : List α} {k : Nat} {x y : α} (hl : l[k]? = some x) (hm : m[k]? = some y) (h : x ≠ y) : l ≠ m := fun e => by
  rw [e, hm] at hl
  exact h (Option.some.inj hl).symm
set_option maxRecDepth 100000 in
set_option maxHeartbeats 4000000 in
theorem eqf34_any (l m : List PatV) (w : World) (A B : Option Addr) (n n' c c' : Nat) (h1 : PatsAt w A n l) (h2 : PatsAt w B n' m) (hm : n ≤ maxLen) (hm' : n' ≤ maxLen) :
    Calls Tryz.prog 71 #[.slice A n c, .slice B n' c', .func (.func 72) #[] #[]] w (RetB w (.bool (decide (l = m)))) := by
  have e1 := h1.len
  have e2 := h2.len
  unfold maxLen at hm hm'
  by_cases hnn : n = n'
  · subst hnn
    have H1 := Lib.hid h1
    have H2 := Lib.hid h2
    have e1 := Lib.hid e1
    have e2 := Lib.hid e2
    have BR := Lib.hid (Below.refl w.heap.size w)
    have zn : ((n : Int) != (n : Int)) = false := by simp
    clear h1 h2
    go_enter Tryz.func71, Tryz.ntmps71
    go_wp2_with fail
    go_loopw [17] (fun i wr => ∃ k : Nat, k ≤ n ∧ i = .int .i64 k ∧ Hid (l.take k = m.take k) ∧ Hid (Below w.heap.size w wr)) (fun i _ => n - (intOf i).toNat)
    case atStart => exact ⟨0, by omega, rfl, rfl, BR.out⟩
    case round =>
      clear BR
      obtain ⟨k, hk, rfl, T, B⟩ := hrel
      obtain ⟨wi, rfl⟩ : ∃ wx, wx = wr := ⟨_, rfl⟩
      have hk0 : (0 : Int) ≤ (k : Int) := by omega
      by_cases hlt : k < n
      · have hlk : (k : Int) < (n : Int) := by omega
        obtain ⟨b, o, p, r, rfl, hb, hp, pa, R⟩ := (H1.out.ext B.out).at_ hlt
        obtain ⟨b2, o2, q, s, rfl, hb2, hq, qa, S⟩ := (H2.out.ext B.out).at_ hlt
        have RH := Lib.hid R
        have SH := Lib.hid S
        have PA := Lib.hid pa
        have QA := Lib.hid qa
        have hr4 : Hid ((Tryz.prog.info? 64).map (·.size) = some r.length) := by rw [Hid, pa.len4]; exact infoPat
        have hs4 : Hid ((Tryz.prog.info? 64).map (·.size) = some s.length) := by rw [Hid, qa.len4]; exact infoPat
        have r4 := Lib.hid pa.len4
        have s4 := Lib.hid qa.len4
        have r1 : Hid (r.toArray.all (·.oneCell') = true) := all_oneCell_toArray pa.one
        have s1 : Hid (s.toArray.all (·.oneCell') = true) := all_oneCell_toArray qa.one
        have YES := Lib.hid (fun h : p = q => takeEq_snoc T.out hp (h ▸ hq))
        have NO := Lib.hid (fun h : p ≠ q => takeEq_no hp hq h)
        have HB := Lib.hid hb
        have HB2 := Lib.hid hb2
        have K0 : Hid (Blk (wi.alloc (.cells #[.int .u8 0, .int .u16 0, .slice none 0 0, .slice none 0 0] 64)) wi.heap.size 64 #[.int .u8 0, .int .u16 0, .slice none 0 0, .slice none 0 0]) := Blk.new _ _ _
        have B1 : Hid (Below wi.heap.size wi ((wi.alloc (.cells #[.int .u8 0, .int .u16 0, .slice none 0 0, .slice none 0 0] 64)).setRow wi.heap.size r.toArray)) := below_setRow (below_new _ _) (Nat.le_refl _) _
        have hsz : Hid ((Tryz.prog.info? 64).map (·.size) = some r.toArray.size) := by rw [Hid, List.size_toArray]; exact hr4.out
        have hsz2 : Hid ((Tryz.prog.info? 64).map (·.size) = some s.toArray.size) := by rw [Hid, List.size_toArray]; exact hs4.out
        clear R S hb hb2 hp hq pa qa
        go_upto_region 6 with (first
          | (refine wpList_load_mid rfl 64 _ (by rfl) b (o + k * 4) (by rfl) _ _ RH.out underPat rfl hr4.out ?_)
          | (refine wpList_alloced (allocPat _) ?_)
          | (refine wpList_store_row rfl 64 _ _ (by rfl) wi.heap.size r.toArray (by rfl) (by rfl) _ _ K0.out hsz.out (by simp only [List.size_toArray, r4.out]; rfl) r1.out ?_))
        have K1 : Hid (Blk ((wi.alloc (.cells #[.int .u8 0, .int .u16 0, .slice none 0 0, .slice none 0 0] 64)).setRow wi.heap.size r.toArray) wi.heap.size 64 r.toArray) := K0.out.row _
        have SH1 := Lib.hid (rangeAt_below SH.out B1.out HB2.out)
        have PA1 := Lib.hid (PA.out.ext B1.out)
        have QA1 := Lib.hid (QA.out.ext B1.out)
        have BB1 := Lib.hid (ext_trans B.out B1.out)
        generalize ((wi.alloc (.cells #[.int .u8 0, .int .u16 0, .slice none 0 0, .slice none 0 0] 64)).setRow wi.heap.size r.toArray) = w4 at *
        obtain ⟨g1, hg1⟩ : ∃ g, g = wi.heap.size := ⟨_, rfl⟩
        rw [← hg1] at K1 ⊢
        replace hg1 := Lib.hid hg1
        clear K0 SH PA QA RH B B1 hsz
        have K2 : Hid (Blk (w4.alloc (.cells #[.int .u8 0, .int .u16 0, .slice none 0 0, .slice none 0 0] 64)) w4.heap.size 64 #[.int .u8 0, .int .u16 0, .slice none 0 0, .slice none 0 0]) := Blk.new _ _ _
        have B2 : Hid (Below w4.heap.size w4 ((w4.alloc (.cells #[.int .u8 0, .int .u16 0, .slice none 0 0, .slice none 0 0] 64)).setRow w4.heap.size s.toArray)) := below_setRow (below_new _ _) (Nat.le_refl _) _
        go_upto_region 7 with (first
          | (refine wpList_load_mid rfl 64 _ (by rfl) b2 (o2 + k * 4) (by rfl) _ _ SH1.out underPat rfl hs4.out ?_)
          | (refine wpList_alloced (allocPat _) ?_)
          | (refine wpList_store_row rfl 64 _ _ (by rfl) w4.heap.size s.toArray (by rfl) (by rfl) _ _ K2.out hsz2.out (by simp only [List.size_toArray, s4.out]; rfl) s1.out ?_))
        have K3 : Hid (Blk ((w4.alloc (.cells #[.int .u8 0, .int .u16 0, .slice none 0 0, .slice none 0 0] 64)).setRow w4.heap.size s.toArray) w4.heap.size 64 s.toArray) := K2.out.row _
        have PA2 := Lib.hid (PA1.out.ext B2.out)
        have QA2 := Lib.hid (QA1.out.ext B2.out)
        have KK1 := Lib.hid (K1.out.ext B2.out)
        have BB2 := Lib.hid (ext_trans BB1.out B2.out)
        generalize ((w4.alloc (.cells #[.int .u8 0, .int .u16 0, .slice none 0 0, .slice none 0 0] 64)).setRow w4.heap.size s.toArray) = w6 at *
        obtain ⟨g2, hg2⟩ : ∃ g, g = w4.heap.size := ⟨_, rfl⟩
        rw [← hg2] at K3 ⊢
        replace hg2 := Lib.hid hg2
        clear K2 SH1 PA1 QA1 K1 BB1 B2
        have HS := Lib.hid (psame p q w6 r s PA2.out QA2.out)
        have hszr : Hid ((Tryz.prog.info? 64).map (·.size) = some r.toArray.size) := by rw [Hid, List.size_toArray]; exact hr4.out
        clear PA2 QA2
        by_cases hpq : p = q
        · have N := Lib.hid (YES.out hpq)
          rw [decide_eq_true hpq] at HS
          clear YES NO hpq
          go_wp2_with (first
            | (refine wpList_load_row rfl 64 _ (by rfl) g1 (by rfl) _ _ _ _ KK1.out underPat rfl hszr.out ?_)
            | (refine wpList_load_row rfl 64 _ (by rfl) g2 (by rfl) _ _ _ _ K3.out underPat rfl hsz2.out ?_))
          refine HS.out.mono ?_
          rintro e w7 ⟨rfl, b7⟩
          have B7 := Lib.hid (ext_trans BB2.out b7)
          clear b7
          go_wp2_with fail
          go_roundw
          case rel => exact ⟨k + 1, by omega, by go_num, N.out, B7.out⟩
          case measure => simp [intOf]; omega
        · have N := Lib.hid (NO.out hpq)
          rw [decide_eq_false hpq] at HS
          clear YES NO hpq
          go_wp2_with (first
            | (refine wpList_load_row rfl 64 _ (by rfl) g1 (by rfl) _ _ _ _ KK1.out underPat rfl hszr.out ?_)
            | (refine wpList_load_row rfl 64 _ (by rfl) g2 (by rfl) _ _ _ _ K3.out underPat rfl hsz2.out ?_))
          refine HS.out.mono ?_
          rintro e w7 ⟨rfl, b7⟩
          have B7 := Lib.hid (ext_trans BB2.out b7)
          clear b7
          go_wp2_with fail
          go_ret
          exact ⟨ret_bool (decide_eq_false N.out).symm, B7.out⟩
      · have hlk : ¬ (k : Int) < (n : Int) := by omega
        have N : Hid (l = m) := by
          have := T.out
          rwa [List.take_of_length_le (by rw [e1.out]; omega), List.take_of_length_le (by rw [e2.out]; omega)] at this
        go_wp2
        go_ret
        exact ⟨ret_bool (decide_eq_true N.out).symm, B.out⟩
  · have zn : ((n : Int) != (n' : Int)) = true := by rw [bne_iff_ne]; omega
    have N : Hid (decide (l = m) = false) := decide_eq_false fun e => hnn (by rw [← e1, ← e2, e])
    have BR := Lib.hid (Below.refl w.heap.size w)
    clear h1 h2 e1 e2
    go_enter Tryz.func71, Tryz.ntmps71
    go_wp2_with fail
    go_ret
    exact ⟨ret_bool N.out.symm, BR.out⟩
end Go.Proofs.YtdafiipedlglpaaGreatDoor
