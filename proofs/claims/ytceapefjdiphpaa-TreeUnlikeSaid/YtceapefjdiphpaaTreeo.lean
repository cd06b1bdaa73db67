/- Trees: without line feeds. -/
import Derived.Test.YtceapefjdiphpaaTreen
namespace Go.Proofs.Ytceapefjdiphpaa
open Go.RowKit

/-- a text without line feeds; a file; a tree -/
def plS (s : ByteArray) : Bool := (bsT s).all (fun c => c != 10)
def plF (f : FileV) : Bool := plS f.name && (f.also.all plS && f.lines.all plS)
def Plain1Ret (B g : Nat) (b : Bool) (w : World) (e : Ending) (w' : World) : Prop := e = .returned (.tuple #[]) ∧ Blk w' g 4 #[.bool b] ∧ Below B w w'

set_option maxRecDepth 100000 in
set_option maxHeartbeats 1000000 in
theorem plain1_any (s : ByteArray) (b : Bool) (w : World) (B g : Nat) (hB : B ≤ g) (h : Blk w g 4 #[.bool b]) (hs : s.size ≤ maxLen) :
    Calls Try.prog 71 #[.string s, .pointer (some ⟨g, 0, none⟩)] w (Plain1Ret B g (b && plS s) w) := by
  unfold maxLen at hs
  have H := Lib.hid h
  clear h
  go_enter Try.func71, Try.ntmps71
  go_wp2_with fail
  go_loopw [3] (fun i wr => ∃ (k : Nat) (bb : Bool), k ≤ s.size ∧ i = .int .i64 k ∧ Hid (bb = (b && ((bsT s).take k).all (fun c => c != 10))) ∧ Hid (Blk wr g 4 #[.bool bb]) ∧ Hid (Below B w wr)) (fun i _ => s.size - (intOf i).toNat)
  case atStart => exact ⟨0, b, Nat.zero_le _, rfl, by simp [Hid], H.out, Below.refl _ _⟩
  case round =>
    obtain ⟨k, bb, hk, rfl, Q, K, Bl⟩ := hrel
    by_cases hlt : k < s.size
    · have E : Hid (((bsT s).take (k+1)).all (fun c => c != 10) = (((bsT s).take k).all (fun c => c != 10) && (s[k] != 10))) := all_snoc_take (bsT s) (fun c => c != 10) k (by simpa [bsT] using hlt)
      generalize ((bsT s).take k).all (fun c => c != 10) = b1 at *
      have c0 : wr.cell? ⟨g, 0, none⟩ = some (.bool bb) := K.out.cell 0
      have f0 := K.out.fr 0
      have hk0 : (0 : Int) ≤ (k : Int) := by omega
      cases bb
      · go_wp2_with fail
        go_roundw
        case rel => exact ⟨k + 1, false, by omega, by go_num, by rw [Hid, E.out, ← Bool.and_assoc, ← Q.out]; rfl, K.out.set_ 0 _, below_setCell Bl.out hB⟩
        case measure => simp [intOf]; omega
      · by_cases hc : s[k].toNat = 10
        · have N : Hid ((s[k] != 10) = false) := by
            rw [Hid, bne_eq_false_iff_eq]
            exact UInt8.toNat_inj.1 hc
          have d1 : ((s[k].toNat : Int) != 10) = false := by simp; omega
          clear hc
          go_wp2_with fail
          go_roundw
          case rel => exact ⟨k + 1, false, by omega, by go_num, by rw [Hid, E.out, ← Bool.and_assoc, ← Q.out, N.out]; rfl, K.out.set_ 0 _, below_setCell Bl.out hB⟩
          case measure => simp [intOf]; omega
        · have N : Hid ((s[k] != 10) = true) := by
            rw [Hid, bne_iff_ne]
            exact fun e => hc (by rw [e]; rfl)
          have d1 : ((s[k].toNat : Int) != 10) = true := by simp; omega
          clear hc
          go_wp2_with fail
          go_roundw
          case rel => exact ⟨k + 1, true, by omega, by go_num, by rw [Hid, E.out, ← Bool.and_assoc, ← Q.out, N.out]; rfl, K.out.set_ 0 _, below_setCell Bl.out hB⟩
          case measure => simp [intOf]; omega
    · have hk' : k = s.size := by omega
      subst hk'
      have N : Hid (bb = (b && plS s)) := by
        have h := Q.out
        rw [List.take_of_length_le (by simp [bsT])] at h
        exact h
      go_wp2
      go_end0
      exact ⟨rfl, N.out ▸ K.out, Bl.out⟩

def plT (fs : List FileV) : Bool := fs.all plF
theorem all_succ {α : Type} (l : List α) (p : α → Bool) {k : Nat} (hk : k < l.length) : (l.take (k + 1)).all p = ((l.take k).all p && p l[k]) := by
  rw [List.take_succ_eq_append_getElem hk, List.all_append]; simp

set_option maxRecDepth 100000 in
set_option maxHeartbeats 4000000 in
theorem plain_any (fs : List FileV) (w : World) (A : Option Addr) (n c : Nat) (hn : fs.length = n) (hf : FewP fs) (h : TreeOk w w.heap.size A fs) :
    Calls Try.prog 50 #[.slice A n c] w (RetB w (.bool (plT fs))) := by
  have hm : n ≤ 40 := by rw [← hn]; exact hf.len
  have HL := Lib.hid hn
  have H := Lib.hid h
  have HF := Lib.hid hf
  have K0 : Hid (Blk (w.alloc (.cells #[.bool true] 4)) w.heap.size 4 #[.bool true]) := Blk.new _ _ _
  have B0 : Hid (Below w.heap.size w (w.alloc (.cells #[.bool true] 4))) := below_new _ _
  clear h hn hf
  go_enter Try.func50, Try.ntmps50
  go_wp2_with fail
  go_loopw [5] (fun i wr => ∃ (k : Nat) (bb : Bool), k ≤ n ∧ i = .int .i64 k ∧ Hid (bb = plT (fs.take k)) ∧ Hid (Blk wr w.heap.size 4 #[.bool bb]) ∧ Hid (Below w.heap.size w wr)) (fun i _ => n - (intOf i).toNat)
  case atStart => exact ⟨0, true, by omega, rfl, by simp [plT, Hid], K0.out, B0.out⟩
  case round =>
    clear K0 B0
    obtain ⟨k, bb, hk, rfl, Q, K, B⟩ := hrel
    by_cases hlt : k < n
    · obtain ⟨b, o, rfl, hb, F1⟩ := H.out.at_ (k := k) (by rw [HL.out]; exact hlt)
      have F3 := fileAt_of (rangeAt_below F1 B.out hb)
      have F4 := Lib.hid (fun wr (hB : Below w.heap.size w wr) => fileAt_of (rangeAt_below F1 hB hb))
      have hmem := List.getElem_mem (show k < fs.length by rw [HL.out]; exact hlt)
      have G := Lib.hid (H.out.ok _ hmem)
      have FW := Lib.hid (HF.out.ok _ hmem)
      have P1 : Hid (plT (fs.take (k + 1)) = (plT (fs.take k) && plF (fs[k]'(by rw [HL.out]; exact hlt)))) := all_succ _ _ _
      generalize fs[k]'(by rw [HL.out]; exact hlt) = f at *
      clear hmem F1
      obtain ⟨c0, c1, c2⟩ := F3
      have hlk : (k : Int) < (n : Int) := by omega
      have hk0 : (0 : Int) ≤ (k : Int) := by omega
      have hal : f.also.length ≤ 40 := FW.out.al
      have hll : f.lines.length ≤ 100 := FW.out.ll
      go_wp2_with fail
      refine (plain1_any f.name bb wr w.heap.size w.heap.size (Nat.le_refl _) K.out G.out.hn).mono ?_
      rintro e w1 ⟨rfl, k1, b1⟩
      have K1 := Lib.hid k1
      have B1 := Lib.hid (B.out.trans b1)
      have E1 : Hid ((bb && plS f.name) = (bb && plS f.name)) := rfl
      clear k1 b1 c0 c1 c2 K B
      generalize hb1 : (bb && plS f.name) = bb1 at *
      have hb1 := Lib.hid hb1
      clear E1
      go_wp2_with fail
      go_loopw [6] (fun i wr => ∃ (q : Nat) (cc : Bool), q ≤ f.also.length ∧ i = .int .i64 q ∧ Hid (cc = (bb1 && (f.also.take q).all plS)) ∧ Hid (Blk wr w.heap.size 4 #[.bool cc]) ∧ Hid (Below w.heap.size w wr)) (fun i _ => f.also.length - (intOf i).toNat)
      case atStart => exact ⟨0, bb1, by omega, rfl, by simp [Hid], K1.out, B1.out⟩
      case round =>
        clear K1 B1
        obtain ⟨q, cc, hq, rfl, Q2, K2, B2⟩ := hrel
        obtain ⟨c0, c1, c2⟩ := F4.out wr B2.out
        by_cases hql : q < f.also.length
        · obtain ⟨b2, o2, hA2, hb2, e0⟩ := strs_at (G.out.up B2.out).sa rfl hql
          rw [hA2] at c1
          have Z := Lib.hid (G.out.za _ (List.getElem_mem hql))
          have P2 : Hid ((f.also.take (q + 1)).all plS = ((f.also.take q).all plS && plS (f.also[q]'hql))) := all_succ _ _ hql
          generalize f.also[q]'hql = s at *
          clear hA2
          have hqk : (q : Int) < (f.also.length : Int) := by omega
          have hq0 : (0 : Int) ≤ (q : Int) := by omega
          go_wp2_with fail
          refine (plain1_any s cc wr w.heap.size w.heap.size (Nat.le_refl _) K2.out Z.out).mono ?_
          rintro e w3 ⟨rfl, k3, b3⟩
          have K3 := Lib.hid k3
          have B3 := Lib.hid (B2.out.trans b3)
          have N : Hid ((cc && plS s) = (bb1 && (f.also.take (q + 1)).all plS)) := by rw [Hid, P2.out, Q2.out, Bool.and_assoc]
          clear k3 b3 c0 c1 c2 K2 B2
          go_wp2_with fail
          go_roundw
          case rel => exact ⟨q + 1, _, by omega, by go_num, N, K3.out, B3.out⟩
          case measure => simp [intOf]; omega
        · have hq' : q = f.also.length := by omega
          subst hq'
          have hql' : ¬ (f.also.length : Int) < (f.also.length : Int) := by omega
          have Q3 : Hid (cc = (bb1 && f.also.all plS)) := by have := Q2.out; rwa [List.take_of_length_le (Nat.le_refl _)] at this
          clear hql Q2
          go_wp2_with fail
          go_loopw [7] (fun i wr => ∃ (q : Nat) (dd : Bool), q ≤ f.lines.length ∧ i = .int .i64 q ∧ Hid (dd = (cc && (f.lines.take q).all plS)) ∧ Hid (Blk wr w.heap.size 4 #[.bool dd]) ∧ Hid (Below w.heap.size w wr)) (fun i _ => f.lines.length - (intOf i).toNat)
          case atStart => exact ⟨0, cc, by omega, rfl, by simp [Hid], K2.out, B2.out⟩
          case round =>
            clear K2 B2 c0 c1 c2
            obtain ⟨q, dd, hq, rfl, Q2, K2, B2⟩ := hrel
            obtain ⟨c0, c1, c2⟩ := F4.out wr B2.out
            by_cases hql : q < f.lines.length
            · obtain ⟨b2, o2, hA2, hb2, e0⟩ := strs_at (G.out.up B2.out).sl rfl hql
              rw [hA2] at c2
              have Z := Lib.hid (G.out.zl _ (List.getElem_mem hql))
              have P2 : Hid ((f.lines.take (q + 1)).all plS = ((f.lines.take q).all plS && plS (f.lines[q]'hql))) := all_succ _ _ hql
              generalize f.lines[q]'hql = s at *
              clear hA2
              have hqk : (q : Int) < (f.lines.length : Int) := by omega
              have hq0 : (0 : Int) ≤ (q : Int) := by omega
              go_wp2_with fail
              refine (plain1_any s dd wr w.heap.size w.heap.size (Nat.le_refl _) K2.out Z.out).mono ?_
              rintro e w3 ⟨rfl, k3, b3⟩
              have K3 := Lib.hid k3
              have B3 := Lib.hid (B2.out.trans b3)
              have N : Hid ((dd && plS s) = (cc && (f.lines.take (q + 1)).all plS)) := by rw [Hid, P2.out, Q2.out, Bool.and_assoc]
              clear k3 b3 c0 c1 c2 K2 B2
              go_wp2_with fail
              go_roundw
              case rel => exact ⟨q + 1, _, by omega, by go_num, N, K3.out, B3.out⟩
              case measure => simp [intOf]; omega
            · have hq' : q = f.lines.length := by omega
              subst hq'
              have hqk' : ¬ (f.lines.length : Int) < (f.lines.length : Int) := by omega
              have N : Hid (dd = plT (fs.take (k + 1))) := by
                have h := Q2.out
                rw [List.take_of_length_le (Nat.le_refl _)] at h
                rw [Hid, h, Q3.out, ← hb1.out, P1.out, Q.out]
                unfold plF
                rw [Bool.and_assoc, Bool.and_assoc]
              clear hql Q2
              go_wp2_with fail
              go_roundw
              case rel => exact ⟨k + 1, _, by omega, by go_num, N, K2.out, B2.out⟩
              case measure => simp [intOf]; omega
    · have hk' : k = n := by omega
      subst hk'
      have N : Hid (bb = plT fs) := by have := Q.out; rwa [List.take_of_length_le (by rw [HL.out]; exact Nat.le_refl _)] at this
      have c0 : wr.cell? ⟨w.heap.size, 0, none⟩ = some (.bool bb) := K.out.cell 0
      go_wp2
      go_ret
      exact ⟨ret_bool N.out, B.out⟩
end Go.Proofs.Ytceapefjdiphpaa
