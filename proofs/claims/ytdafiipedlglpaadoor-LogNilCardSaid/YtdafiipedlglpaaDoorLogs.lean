/- Texts of general use, one behind another. -/
import Derived.Test.YtdafiipedlglpaaDoorMsga
import Derived.Test.YtdafiipedlglpaaDoorCrcv
import Derived.Test.YtdafiipedlglpaaDoorRps
import Derived.Test.YtdafiipedlglpaaDoorGen
import Derived.Laws.CopyOwn
import Derived.Laws.MakeOwn
import Derived.Test.YtdafiipedlglpaaDoorPcds
import Derived.Test.YtdafiipedlglpaaDoorIdxw
import Derived.Test.YtdafiipedlglpaaDoorFara
import Derived.Test.YtdafiipedlglpaaDoorMsgl
import Derived.Deep.CutBlock
import Derived.Deep.DeepCutAuto

/- A log's bytes, and the patches that bytes tell: plain law; no program in sight. -/
namespace Go.Proofs.YtdafiipedlglpaaDoor

/-- bytes in a frame -/
def headF (l : List UInt8) : List UInt8 := vbytes l.length ++ l
def frameB (l : List UInt8) : List UInt8 := sealB (headF l)
/-- what stands in the first frame -/
def nextFr (b : List UInt8) : List UInt8 × Nat × Nat :=
  if (vread b).2.2 ≠ 0 then ([], 0, (vread b).2.2)
  else if 65536 < (vread b).1 then ([], 0, 3)
  else if b.length < (vread b).2.1 + (vread b).1 + 4 then ([], 0, 2)
  else if (b.drop ((vread b).2.1 + (vread b).1)).take 4 = fourU (sumC (toB8 (b.take ((vread b).2.1 + (vread b).1)))) then ((b.take ((vread b).2.1 + (vread b).1)).drop (vread b).2.1, (vread b).2.1 + (vread b).1 + 4, 0)
  else ([], 0, 5)
theorem headF_len (l : List UInt8) : (headF l).length = (vbytes l.length).length + l.length := by unfold headF; rw [List.length_append]
theorem frameB_len (l : List UInt8) : (frameB l).length = (vbytes l.length).length + l.length + 4 := by unfold frameB; rw [sealB_len, headF_len]
theorem frameB_cut (l : List UInt8) : frameB l = headF l ++ fourU (sumC (toB8 (headF l))) := rfl
theorem vread_frame {l : List UInt8} (h : l.length ≤ 65536) (rest : List UInt8) : vread (frameB l ++ rest) = (l.length, (vbytes l.length).length, 0) := by
  rw [frameB_cut]
  unfold headF
  rw [List.append_assoc, List.append_assoc]
  exact vread_bytes (by omega) _
theorem next_frame {l : List UInt8} (h : l.length ≤ 65536) (rest : List UInt8) : nextFr (frameB l ++ rest) = (l, (frameB l).length, 0) := by
  have hl := headF_len l
  have h1 : (frameB l ++ rest).take ((vbytes l.length).length + l.length) = headF l := by
    rw [frameB_cut, List.append_assoc, ← hl, List.take_left]
  have h2 : (frameB l ++ rest).drop ((vbytes l.length).length + l.length) = fourU (sumC (toB8 (headF l))) ++ rest := by
    rw [frameB_cut, List.append_assoc, ← hl, List.drop_left]
  have h3 : (fourU (sumC (toB8 (headF l))) ++ rest).take 4 = fourU (sumC (toB8 (headF l))) := by
    conv => lhs; rw [← fourU_len (sumC (toB8 (headF l)))]
    exact List.take_left
  have h4 : (headF l).drop (vbytes l.length).length = l := by unfold headF; exact List.drop_left
  unfold nextFr
  rw [vread_frame h rest]
  dsimp only
  rw [if_neg (by simp), if_neg (by omega), if_neg (by rw [List.length_append, frameB_len]; omega), h1, h2, h3, if_pos rfl, h4, frameB_len]
theorem next_cut {l : List UInt8} (h : l.length ≤ 65536) {m : Nat} (hm : m < (frameB l).length) : (nextFr ((frameB l).take m)).2.2 ≠ 0 := by
  rw [frameB_len] at hm
  have e : frameB l = vbytes l.length ++ (l ++ fourU (sumC (toB8 (headF l)))) := by rw [frameB_cut]; unfold headF; rw [List.append_assoc]
  by_cases hk : m < (vbytes l.length).length
  · have h1 : (frameB l).take m = (vbytes l.length).take m := by rw [e, List.take_append_of_le_length (by omega)]
    rw [h1]
    unfold nextFr
    rw [vread_cut (by omega) hk]
    dsimp only
    rw [if_pos (by omega)]
    dsimp only
    omega
  · have h1 : (frameB l).take m = vbytes l.length ++ (l ++ fourU (sumC (toB8 (headF l)))).take (m - (vbytes l.length).length) := by
      rw [e, List.take_append, List.take_of_length_le (by omega)]
    have h2 : ((frameB l).take m).length = m := by rw [List.length_take, frameB_len]; omega
    have h3 : vread ((frameB l).take m) = (l.length, (vbytes l.length).length, 0) := by rw [h1]; exact vread_bytes (by omega) _
    unfold nextFr
    rw [h3]
    dsimp only
    rw [if_neg (by omega), if_neg (by omega), if_pos (by rw [h2]; omega)]
    dsimp only
    omega
theorem next_told {b x : List UInt8} {n : Nat} (h : nextFr b = (x, n, 0)) : b = frameB x ++ b.drop n ∧ n = (frameB x).length ∧ x.length ≤ 65536 ∧ n ≤ b.length := by
  unfold nextFr at h
  obtain ⟨q, k, e, hv⟩ : ∃ q k e, vread b = (q, k, e) := ⟨_, _, _, rfl⟩
  rw [hv] at h
  dsimp only at h
  split at h
  · rename_i h0
    simp only [Prod.mk.injEq] at h
    exact absurd h.2.2 h0
  · rename_i h0
    have h0 : e = 0 := by simpa using h0
    subst h0
    obtain ⟨_, hk, hb⟩ := vread_told hv
    split at h
    · simp only [Prod.mk.injEq] at h
      exact absurd h.2.2 (by omega)
    · rename_i h1
      split at h
      · simp only [Prod.mk.injEq] at h
        exact absurd h.2.2 (by omega)
      · rename_i h2
        split at h
        · rename_i h3
          simp only [Prod.mk.injEq, and_true] at h
          obtain ⟨hx, hn⟩ := h
          have hxl : x.length = q := by rw [← hx, List.length_drop, List.length_take]; omega
          have hH : b.take (k + q) = headF x := by
            unfold headF
            rw [hxl, ← hx]
            have : (b.take (k + q)).take k = vbytes q := by
              rw [List.take_take, Nat.min_eq_left (by omega)]
              conv => lhs; rw [hb]
              rw [hk, List.take_left]
            rw [← this, List.take_append_drop]
          have hF : frameB x = b.take n := by
            rw [frameB_cut, ← hH, ← h3, ← hn, List.take_add (l := b) (i := k + q) (j := 4)]
          refine ⟨by rw [hF, List.take_append_drop], ?_, by omega, by omega⟩
          rw [hF, List.length_take]; omega
        · simp only [Prod.mk.injEq] at h
          exact absurd h.2.2 (by omega)
/-- the patches that stand on bytes, and how long each is -/
def readF : Nat → List UInt8 → List (PatV × Nat)
  | 0, _ => []
  | k + 1, b => if (nextFr b).2.2 ≠ 0 then [] else if (decP (nextFr b).1).2 ≠ 0 then [] else ((decP (nextFr b).1).1, (nextFr b).2.1) :: readF k (b.drop (nextFr b).2.1)
def readL (b : List UInt8) : List (PatV × Nat) := readF b.length b
def flen (p : PatV) : Nat := (frameB (patBytes p)).length
def framesB (ps : List PatV) : List UInt8 := ps.flatMap fun p => frameB (patBytes p)
def withLen (ps : List PatV) : List (PatV × Nat) := ps.map fun p => (p, flen p)
theorem next_less {b : List UInt8} (h : (nextFr b).2.2 = 0) : 0 < (nextFr b).2.1 ∧ (nextFr b).2.1 ≤ b.length := by
  obtain ⟨x, n, e, hn⟩ : ∃ x n e, nextFr b = (x, n, e) := ⟨_, _, _, rfl⟩
  rw [hn] at h ⊢
  dsimp only at h ⊢
  subst h
  obtain ⟨_, h2, _, h4⟩ := next_told hn
  rw [frameB_len] at h2
  omega
theorem readF_more : ∀ (k : Nat) (b : List UInt8), b.length ≤ k → readF k b = readF b.length b
  | 0, b, h => by rw [List.eq_nil_of_length_eq_zero (by omega : b.length = 0)]; rfl
  | k + 1, b, h => by
    by_cases h0 : (nextFr b).2.2 = 0
    · have hl := next_less h0
      obtain ⟨m, hm⟩ : ∃ m, b.length = m + 1 := ⟨b.length - 1, by omega⟩
      have hd : (b.drop (nextFr b).2.1).length ≤ m := by rw [List.length_drop]; omega
      rw [hm]
      unfold readF
      rw [readF_more k _ (by omega), readF_more m _ hd]
    · have e1 : readF (k + 1) b = [] := by unfold readF; rw [if_pos h0]
      rw [e1]
      cases hb : b.length with
      | zero => rfl
      | succ m => unfold readF; rw [if_pos h0]
theorem readL_stop {b : List UInt8} (h : (nextFr b).2.2 ≠ 0 ∨ (decP (nextFr b).1).2 ≠ 0) : readL b = [] := by
  unfold readL
  cases hb : b.length with
  | zero => rfl
  | succ m =>
    unfold readF
    by_cases h0 : (nextFr b).2.2 ≠ 0
    · rw [if_pos h0]
    · rw [if_neg h0, if_pos (h.resolve_left h0)]
theorem readL_go {b x : List UInt8} {n : Nat} {p : PatV} (h : nextFr b = (x, n, 0)) (hp : decP x = (p, 0)) : readL b = (p, n) :: readL (b.drop n) := by
  have hl := next_less (b := b) (by rw [h])
  unfold readL
  obtain ⟨m, hm⟩ : ∃ m, b.length = m + 1 := ⟨b.length - 1, by omega⟩
  rw [hm]
  have hd : (b.drop n).length ≤ m := by rw [h] at hl; dsimp only at hl; rw [List.length_drop]; omega
  have e : readF (m + 1) b = ((decP (nextFr b).1).1, (nextFr b).2.1) :: readF m (b.drop (nextFr b).2.1) := by
    conv => lhs; unfold readF
    rw [h]
    dsimp only
    rw [hp, if_neg (by simp), if_neg (by simp)]
  rw [e, h, hp]
  dsimp only
  rw [readF_more m _ hd]
theorem readL_nil : readL [] = [] := rfl
theorem readL_frames : ∀ (ps : List PatV) (rest : List UInt8), (∀ p ∈ ps, patB p = true) → readL (framesB ps ++ rest) = withLen ps ++ readL rest
  | [], rest, _ => rfl
  | p :: ps, rest, h => by
    have hp := h p (List.mem_cons_self ..)
    have hl := patBytes_len hp
    have e : framesB (p :: ps) ++ rest = frameB (patBytes p) ++ (framesB ps ++ rest) := by unfold framesB; rw [List.flatMap_cons, List.append_assoc]
    rw [e, readL_go (next_frame (by omega) _) (dec_enc hp), List.drop_left, readL_frames ps rest fun q hq => h q (List.mem_cons_of_mem _ hq)]
    rfl
/-- what is read stands there -/
def sumLen (l : List (PatV × Nat)) : Nat := (l.map (·.2)).sum
theorem sumLen_nil : sumLen [] = 0 := rfl
theorem sumLen_cons (q : PatV × Nat) (l : List (PatV × Nat)) : sumLen (q :: l) = q.2 + sumLen l := by unfold sumLen; rw [List.map_cons, List.sum_cons]
theorem sumLen_append (l m : List (PatV × Nat)) : sumLen (l ++ m) = sumLen l + sumLen m := by
  induction l with
  | nil => rw [List.nil_append, sumLen_nil, Nat.zero_add]
  | cons q l ih => rw [List.cons_append, sumLen_cons, sumLen_cons, ih, Nat.add_assoc]
theorem sumLen_snoc (l : List (PatV × Nat)) (q : PatV × Nat) : sumLen (l ++ [q]) = sumLen l + q.2 := by rw [sumLen_append, sumLen_cons, sumLen_nil, Nat.add_zero]
/-- where each ends -/
def endsL (l : List (PatV × Nat)) : List Nat := (List.range l.length).map fun i => sumLen (l.take (i + 1))
theorem endsL_len (l : List (PatV × Nat)) : (endsL l).length = l.length := by unfold endsL; rw [List.length_map, List.length_range]
theorem endsL_snoc (l : List (PatV × Nat)) (q : PatV × Nat) : endsL (l ++ [q]) = endsL l ++ [sumLen l + q.2] := by
  unfold endsL
  rw [List.length_append, List.length_singleton, List.range_succ, List.map_append]
  congr 1
  · refine List.map_congr_left fun i hi => ?_
    rw [List.mem_range] at hi
    rw [List.take_append_of_le_length (by omega)]
  · rw [List.map_singleton, List.take_of_length_le (by simp), sumLen_snoc]
end Go.Proofs.YtdafiipedlglpaaDoor

/- A frame is made, and the first one of bytes is read: walked. -/
namespace Go.Proofs.YtdafiipedlglpaaDoor
open Go.RowKit

def FrRet (w : World) (l : List UInt8) (e : Ending) (w' : World) : Prop := ∃ v, e = .returned (.tuple #[v, .int .i64 0]) ∧ w'.ownsRow w.heap.size 5 1 v (frameB l).length (encB (frameB l)) ∧ Below w.heap.size w w'
set_option maxRecDepth 100000 in
set_option maxHeartbeats 4000000 in
theorem frame06_any (l : List UInt8) (w : World) (A : Option Addr) (n c : Nat) (h : BytesAt w A n c l) (hm : n ≤ 65536) (hF : FourOk w) :
    Calls Tryd.prog 21 #[.slice A n c] w (FrRet w l) := by
  have hl := h.len
  have hni : ¬ (65536 < (n : Int)) := by omega
  have hmw : IntKind.u64.wrap (n : Int) = (n : Int) := by rw [IntKind.wrap_u64]; omega
  have HV := Lib.hid (vbytes_any n (by omega) w)
  have hvl : (vbytes n).length ≤ 10 := vbytes_len 9 n (by omega)
  have EH : Hid (encB (vbytes n) ++ encB l = encB (headF l)) := by rw [Hid, ← encB_append]; unfold headF; rw [hl]
  have LH : Hid ((vbytes n).length + n = (headF l).length) := by rw [Hid, headF_len, hl]
  have H := Lib.hid h
  have F0 := Lib.hid hF
  clear h hF
  go_enter Tryd.func21, Tryd.ntmps21
  go_wp2_with fail
  refine HV.out.mono ?_
  rintro e w2 ⟨v2, rfl, o2, b2⟩
  have O2 := Lib.hid o2
  have S2 := Lib.hid (H.out.ext b2).sl
  have B2 := Lib.hid b2
  clear o2 b2 HV H hmw hni
  go_upto_region 4 with (at_builtin; refine wpList_catB byteSl O2.out S2.out (encB_one l) B2.out.size (by omega) (by unfold maxLen; omega) (by rfl) (by rfl) ?_; intro v3 w3 own3 kp3 hv3)
  rw [EH.out, LH.out] at own3
  have bl3 := kp3.below (B := w.heap.size) (fun k e => (O2.out.lt k e).1) B2.out.size
  have B3 : Hid (Below w.heap.size w w3) := B2.out.trans bl3
  have F3 := Lib.hid (four_ext F0.out B3)
  obtain ⟨p, hp⟩ : ∃ p, p = headF l := ⟨_, rfl⟩
  have hpl : p.length ≤ 65550 := by rw [hp, ← LH.out]; omega
  rw [← hp] at own3
  have hfr : Hid (frameB l = sealB p) := by rw [hp]; rfl
  obtain ⟨np, hnp⟩ : ∃ np, np = p.length := ⟨_, rfl⟩
  rw [← hnp] at own3 hpl
  obtain ⟨A3, c3, rfl, hc3, hs3⟩ := Sl.of_own own3
  have O3 := Lib.hid own3
  obtain ⟨_, _, e3, ba3⟩ := own_bytes own3 hnp.symm
  injection e3 with e31 e32 e33
  subst e31 e33
  have ES : encB (frameB l) = encB p ++ encB (fourU (sumC (toB8 p))) := by rw [hfr.out]; unfold sealB; rw [encB_append]
  rw [four_enc] at ES
  have EL : Hid ((frameB l).length = np + 4) := by rw [Hid, hfr.out, sealB_len, hnp]
  have BA3 := Lib.hid ba3
  have B4 : Hid (Below w3.heap.size w3 (w3.alloc (.cells #[.slice A3 np c3] 50))) := below_new _ _
  have K4 : Hid (Blk (w3.alloc (.cells #[.slice A3 np c3] 50)) w3.heap.size 50 #[.slice A3 np c3]) := Blk.new _ _ _
  have HS := Lib.hid (sum02_any (BA3.out.ext B4.out) (four_ext F3.out B4.out) w3.heap.size 0 1 (K4.out.cell 0))
  have BW4 := Lib.hid (B3.out.trans (B4.out.mono B3.out.size))
  have O4 := Lib.hid (own_ext O3.out B4.out)
  clear own3 ba3 hs3 hv3 kp3 bl3 hp LH EH O3 BA3
  replace hnp := Lib.hid hnp
  replace ES := Lib.hid ES
  generalize sumC (toB8 p) = s at *
  have Q1 : Hid (∀ u, (binOp .shr 68 (u32V s) (.int .u64 24)).run Tryd.prog u = .ok (u32V (s >>> 24)) u) := fun u => shr32l s 24 _ rfl (by omega) u
  have Q2 : Hid (∀ u, (binOp .shr 68 (u32V s) (.int .u64 16)).run Tryd.prog u = .ok (u32V (s >>> 16)) u) := fun u => shr32l s 16 _ rfl (by omega) u
  have Q3 : Hid (∀ u, (binOp .shr 68 (u32V s) (.int .u64 8)).run Tryd.prog u = .ok (u32V (s >>> 8)) u) := fun u => shr32l s 8 _ rfl (by omega) u
  have C1 := Lib.hid (fun u => conv8 (s >>> 24) u)
  have C2 := Lib.hid (fun u => conv8 (s >>> 16) u)
  have C3 := Lib.hid (fun u => conv8 (s >>> 8) u)
  have C4 := Lib.hid (fun u => conv8 s u)
  generalize ((s >>> 24).setWidth 8 : BitVec 8).toNat = a1 at *
  generalize ((s >>> 16).setWidth 8 : BitVec 8).toNat = a2 at *
  generalize ((s >>> 8).setWidth 8 : BitVec 8).toNat = a3 at *
  generalize (s.setWidth 8 : BitVec 8).toNat = a4 at *
  generalize s >>> 24 = s1 at *
  generalize s >>> 16 = s2 at *
  generalize s >>> 8 = s3 at *
  generalize u32V s = sv at *
  have O := Lib.hid (fun u => own_lit4 u (a1 : Int) (a2 : Int) (a3 : Int) (a4 : Int))
  clear hfr
  go_wp2_with fail
  refine HS.out.mono ?_
  rintro e w5 ⟨rfl, rfl⟩
  generalize (w3.alloc (.cells #[.slice A3 np c3] 50)) = w5 at *
  have S5 := Lib.hid (Sl.of_own (O.out w5))
  have B5 : Hid (Below w.heap.size w (w5.alloc (.cells #[.int .u8 a1, .int .u8 a2, .int .u8 a3, .int .u8 a4] 5))) := BW4.out.trans ((below_new _ _).mono BW4.out.size)
  have O5 : Hid ((w5.alloc (.cells #[.int .u8 a1, .int .u8 a2, .int .u8 a3, .int .u8 a4] 5)).ownsRow w.heap.size 5 1 (.slice A3 np c3) np (encB p)) := own_ext O4.out (below_new _ _)
  obtain ⟨_, _, e5, _, s5⟩ := S5.out
  cases e5
  have S6 := Lib.hid s5
  clear s5 S5 O4 BW4 HS K4 O
  go_wp2_with (first
    | ((with_reducible refine wpList_comp ?_ ?_ ?_ (Q1.out _) ?_); rfl; rfl; rfl)
    | ((with_reducible refine wpList_comp ?_ ?_ ?_ (Q2.out _) ?_); rfl; rfl; rfl)
    | ((with_reducible refine wpList_comp ?_ ?_ ?_ (Q3.out _) ?_); rfl; rfl; rfl)
    | ((with_reducible refine wpList_convB ?_ (C1.out _) ?_); rfl)
    | ((with_reducible refine wpList_convB ?_ (C2.out _) ?_); rfl)
    | ((with_reducible refine wpList_convB ?_ (C3.out _) ?_); rfl)
    | ((with_reducible refine wpList_convB ?_ (C4.out _) ?_); rfl)
    | (at_builtin; refine wpList_catB byteSl O5.out S6.out (by simp [Value.oneCell']) B5.out.size (by omega) (by unfold maxLen; omega) (by rfl) (by rfl) ?_; intro v6 w6 own6 kp6 hv6))
  have B6 : Hid (Below w.heap.size w w6) := B5.out.trans (kp6.below (fun k e => (O5.out.lt k e).1) B5.out.size)
  refine bodyPost_ret (v := .tuple #[v6, .int .i64 0]) ?_ rfl ⟨v6, rfl, by rw [EL.out, ES.out]; exact own6, B6.out⟩
  simp [results, Tryd.results21, go_sem]
def NextRet (w : World) (l : List UInt8) (e : Ending) (w' : World) : Prop := ∃ v, e = .returned (.tuple #[v, .int .i64 (((nextFr l).2.1 : Nat) : Int), .int .i64 (((nextFr l).2.2 : Nat) : Int)]) ∧ w'.ownsRow w.heap.size 5 1 v (nextFr l).1.length (encB (nextFr l).1) ∧ Below w.heap.size w w'
theorem nextFr_sum {l : List UInt8} {q k : Nat} (hv : vread l = (q, k, 0)) (hq : q ≤ 65536) (hlen : k + q + 4 ≤ l.length) :
    nextFr l = if wordU ((l.drop (k + q)).take 4) = sumC (toB8 (l.take (k + q))) then ((l.take (k + q)).drop k, k + q + 4, 0) else ([], 0, 5) := by
  have h4 : ((l.drop (k + q)).take 4).length = 4 := by rw [List.length_take, List.length_drop]; omega
  unfold nextFr
  rw [hv]
  dsimp only
  rw [if_neg (by omega), if_neg (by omega), if_neg (by omega)]
  by_cases c : wordU ((l.drop (k + q)).take 4) = sumC (toB8 (l.take (k + q)))
  · rw [if_pos c, if_pos ((four_word h4 _).2 c)]
  · rw [if_neg c, if_neg fun h2 => c ((four_word h4 _).1 h2)]
theorem BytesAt.mid {w : World} {A : Option Addr} {n c lo hi : Nat} {l : List UInt8} (h : BytesAt w A n c l) (h1 : lo ≤ hi) (h2 : hi ≤ n) : BytesAt w (cutAddr A c lo 1) (hi - lo) (c - lo) ((l.drop lo).take (hi - lo)) := by
  have h3 := h.low (k := lo) (by omega)
  refine ⟨by rw [List.length_take, h3.len]; omega, by have := h.cap; omega, by have := h.big; omega, ?_⟩
  exact Sl.less h3.sl h3.len (by omega)
set_option maxRecDepth 100000 in
set_option maxHeartbeats 4000000 in
theorem next06_any (l : List UInt8) (w : World) (A : Option Addr) (n c : Nat) (h : BytesAt w A n c l) (hm : n ≤ 10000000) (hF : FourOk w) :
    Calls Tryd.prog 17 #[.slice A n c] w (NextRet w l) := by
  have hl := h.len
  have BR := Lib.hid (Below.refl w.heap.size w)
  have HV := Lib.hid (vread_any l w A n c h)
  have hle := Lib.hid (fun n k he => vread_len (l := l) (n := n) (k := k) he)
  have H := Lib.hid h
  have HF := Lib.hid hF
  obtain ⟨q, k, e1, hv⟩ : ∃ q k e1, vread l = (q, k, e1) := ⟨_, _, _, rfl⟩
  rw [hv] at HV hle
  replace hv := Lib.hid hv
  clear h hF
  by_cases he : e1 = 0
  · subst he
    have hk := hle.out q k rfl
    by_cases hq : q ≤ 65536
    · have hqi : ¬ (65536 < (q : Int)) := by omega
      have hqw : IntKind.i64.wrap (q : Int) = (q : Int) := by rw [IntKind.wrap_i64]; omega
      have zz1 : IntKind.i64.wrap ((n : Int) - (k : Int)) = (n : Int) - (k : Int) := IntWalk.i64_in _ (by omega)
      have zz2 : IntKind.i64.wrap ((n : Int) - (k : Int) - 4) = (n : Int) - (k : Int) - 4 := IntWalk.i64_in _ (by omega)
      by_cases hlen : k + q + 4 ≤ n
      · have zc : ¬ ((n : Int) - (k : Int) - 4 < (q : Int)) := by omega
        obtain ⟨m, hm0⟩ : ∃ m, m = k + q := ⟨_, rfl⟩
        have zz3 : IntKind.i64.wrap ((k : Int) + (q : Int)) = (m : Int) := by rw [IntWalk.i64_in _ (by omega)]; omega
        have zz4 : IntKind.i64.wrap ((m : Int) + 4) = ((m + 4 : Nat) : Int) := by rw [IntWalk.i64_in _ (by omega)]; omega
        have E := Lib.hid (nextFr_sum hv.out hq (by omega))
        rw [← hm0] at E
        have HM4 := H.out.mid (lo := m) (hi := m + 4) (by omega) (by omega)
        have e4 : m + 4 - m = 4 := by omega
        rw [e4] at HM4
        have CM4 := Lib.hid (fun u => run_slice_mid byteSl (A := A) (n := n) (c := c) (lo := m) (hi := m + 4) (by omega) (by have := H.out.cap; omega) u)
        rw [e4] at CM4
        have HI := Lib.hid (H.out.top (k := m) (by omega))
        have CH := Lib.hid (fun u => run_slice_high byteSl (A := A) (n := n) (c := c) (k := m) (by have := H.out.cap; omega) u)
        have HK := H.out.mid (lo := k) (hi := m) (by omega) (by omega)
        have CK := Lib.hid (fun u => run_slice_mid byteSl (A := A) (n := n) (c := c) (lo := k) (hi := m) (by omega) (by have := H.out.cap; omega) u)
        have emk : m - k = q := by omega
        rw [emk] at HK CK
        have ED : Hid ((l.take m).drop k = (l.drop k).take q) := by rw [Hid, List.drop_take, emk]
        rw [ED.out] at E
        have HK := Lib.hid HK
        have LO := Lib.hid HM4
        have h4 : Hid (((l.drop m).take 4).length = 4) := LO.out.len
        clear HM4 e4 emk ED H hle hlen
        generalize cutAddr A c m 1 = AL at *
        generalize cutAddr A c 0 1 = AH at *
        generalize cutAddr A c k 1 = AK at *
        generalize (l.drop m).take 4 = t at *
        generalize l.take m = p at *
        generalize (l.drop k).take q = x0 at *
        generalize c - m = cm at *
        generalize c - k = ck at *
        replace hm0 := Lib.hid hm0
        have hmb : m ≤ 10000000 := by have := hm0.out; omega
        go_enter Tryd.func17, Tryd.ntmps17
        go_wp2_with fail
        refine HV.out.mono ?_
        rintro e _ ⟨rfl, rfl⟩
        clear HV
        go_upto_region 8 with fail
        clear zc hqi zz1 zz2
        go_wp2_with (refine wpList_slB rfl rfl rfl rfl (CM4.out _) ?_)
        go_loop [9, 44] (fun s i => ∃ k : Nat, k ≤ 4 ∧ s = u32V (wordU (t.take k)) ∧ i = .int .i64 (k : Int)) (fun _ i => 4 - (intOf i).toNat)
        case atStart => exact ⟨0, by omega, rfl, rfl⟩
        case round =>
          obtain ⟨j, hj, rfl, rfl⟩ := hrel
          have hj0 : (0 : Int) ≤ (j : Int) := by omega
          by_cases hlt : j < 4
          · have hlj : (j : Int) < 4 := by omega
            obtain ⟨b, o, x, hA, hb, hx, hc⟩ := byte_at LO.out.sl hlt
            have EN : Hid (wordU (t.take (j + 1)) = (wordU (t.take j) <<< 8) ||| wideU x) := by
              rw [Hid, List.take_add_one, hx]; exact wordU_snoc _ _
            clear hx hb
            subst hA
            generalize wordU (t.take j) = r at *
            have C1 := Lib.hid (fun u => conv32 x u)
            have S1 : Hid (∀ u, (binOp .shl 68 (u32V r) (.int .u64 8)).run Tryd.prog u = .ok (u32V (r <<< 8)) u) := fun u => shl32l r 8 _ rfl (by omega) u
            have O1 := Lib.hid (fun u => or32 (r <<< 8) (wideU x) u)
            generalize r <<< 8 = r8 at *
            generalize wideU x = y at *
            generalize r8 ||| y = r2 at *
            go_wp2_with (first
              | ((with_reducible refine wpList_convB ?_ (C1.out _) ?_); rfl)
              | ((with_reducible refine wpList_comp ?_ ?_ ?_ (S1.out _) ?_); rfl; rfl; rfl)
              | ((with_reducible refine wpList_comp ?_ ?_ ?_ (O1.out _) ?_); rfl; rfl; rfl))
            go_round
            case rel => exact ⟨j + 1, by omega, by rw [EN.out], by go_num⟩
            case measure => simp [intOf]; omega
          · have hlj : ¬ (j : Int) < 4 := by omega
            rw [List.take_of_length_le (by have := h4.out; omega)]
            have B1 : Hid (Below w.heap.size w (w.alloc (.cells #[.slice AH m c] 50))) := below_new _ _
            have K1 : Hid (Blk (w.alloc (.cells #[.slice AH m c] 50)) w.heap.size 50 #[.slice AH m c]) := Blk.new _ _ _
            have HS := Lib.hid (sum02_any (HI.out.ext B1.out) (four_ext HF.out B1.out) w.heap.size 0 1 (K1.out.cell 0))
            have HC := Lib.hid (cloneB x0 (w.alloc (.cells #[.slice AH m c] 50)) AK q ck (by omega) (HK.out.ext B1.out).sl HK.out.len)
            have NQ := Lib.hid (fun u => neq32 (wordU t) (sumC (toB8 p)) u)
            have NG := Lib.hid (fun x y u => neqg32 x y (wordU t) (sumC (toB8 p)) u)
            by_cases hw : wordU t = sumC (toB8 p)
            · rw [if_pos hw] at E
              rw [decide_eq_true hw] at NQ
              replace hw := Lib.hid hw
              generalize u32V (wordU t) = u1 at *
              generalize u32V (sumC (toB8 p)) = u2 at *
              go_wp2_with (refine wpList_slB rfl rfl rfl rfl (CH.out _) ?_)
              refine HS.out.mono ?_
              rintro e w3 ⟨rfl, rfl⟩
              go_wp2_with (first
                | ((with_reducible refine wpList_comp ?_ ?_ ?_ (NQ.out _) ?_); rfl; rfl; exact NG.out _ _ _)
                | (refine wpList_slB rfl rfl rfl rfl (CK.out _) ?_))
              refine HC.out.mono ?_
              rintro e w4 ⟨v4, rfl, o4, b4⟩
              have B4 := Lib.hid (B1.out.trans (b4.mono B1.out.size))
              have O4 := Lib.hid (own_mono' o4 B1.out.size)
              have hxl : Hid (x0.length = q) := HK.out.len
              have hmk : Hid (k + q + 4 = m + 4) := by rw [Hid, hm0.out]
              clear o4 b4
              go_wp2_with fail
              refine bodyPost_ret (v := .tuple #[v4, .int .i64 ((m + 4 : Nat) : Int), .int .i64 0]) ?_ rfl ⟨v4, by rw [E.out]; dsimp only; rfl, by rw [E.out]; dsimp only; rw [hxl.out]; exact O4.out, B4.out⟩
              simp [results, Tryd.results17, go_sem]
            · rw [if_neg hw] at E
              rw [decide_eq_false hw] at NQ
              replace hw := Lib.hid hw
              generalize u32V (wordU t) = u1 at *
              generalize u32V (sumC (toB8 p)) = u2 at *
              go_wp2_with (refine wpList_slB rfl rfl rfl rfl (CH.out _) ?_)
              refine HS.out.mono ?_
              rintro e w3 ⟨rfl, rfl⟩
              go_wp2_with ((with_reducible refine wpList_comp ?_ ?_ ?_ (NQ.out _) ?_); rfl; rfl; exact NG.out _ _ _)
              refine bodyPost_ret (v := .tuple #[.slice none 0 0, .int .i64 0, .int .i64 5]) ?_ rfl ⟨.slice none 0 0, by rw [E.out]; rfl, by rw [E.out]; exact World.ownsRow_nil _ _ _ _, B1.out⟩
              simp [results, Tryd.results17, go_sem]
      · have zc : (n : Int) - (k : Int) - 4 < (q : Int) := by omega
        have E : Hid (nextFr l = ([], 0, 2)) := by
          rw [Hid]; unfold nextFr; rw [hv.out]; dsimp only; rw [if_neg (by omega), if_neg (by omega), if_pos (by omega)]
        replace hlen := Lib.hid hlen
        go_enter Tryd.func17, Tryd.ntmps17
        go_wp2_with fail
        refine HV.out.mono ?_
        rintro e _ ⟨rfl, rfl⟩
        go_wp2_with fail
        refine bodyPost_ret (v := .tuple #[.slice none 0 0, .int .i64 0, .int .i64 2]) ?_ rfl ⟨.slice none 0 0, by rw [E.out]; rfl, by rw [E.out]; exact World.ownsRow_nil _ _ _ _, BR.out⟩
        simp [results, Tryd.results17, go_sem]
    · have hqi : (65536 < (q : Int)) := by omega
      have E : Hid (nextFr l = ([], 0, 3)) := by
        rw [Hid]; unfold nextFr; rw [hv.out]; dsimp only; rw [if_neg (by omega), if_pos (by omega)]
      replace hq := Lib.hid hq
      go_enter Tryd.func17, Tryd.ntmps17
      go_wp2_with fail
      refine HV.out.mono ?_
      rintro e _ ⟨rfl, rfl⟩
      go_wp2_with fail
      refine bodyPost_ret (v := .tuple #[.slice none 0 0, .int .i64 0, .int .i64 3]) ?_ rfl ⟨.slice none 0 0, by rw [E.out]; rfl, by rw [E.out]; exact World.ownsRow_nil _ _ _ _, BR.out⟩
      simp [results, Tryd.results17, go_sem]
  · have z1 : (((e1 : Nat) : Int) != 0) = true := by rw [bne_iff_ne]; omega
    have E : Hid (nextFr l = ([], 0, e1)) := by
      rw [Hid]; unfold nextFr; rw [hv.out]; dsimp only; rw [if_pos he]
    replace he := Lib.hid he
    go_enter Tryd.func17, Tryd.ntmps17
    go_wp2_with fail
    refine HV.out.mono ?_
    rintro e _ ⟨rfl, rfl⟩
    go_wp2_with fail
    refine bodyPost_ret (v := .tuple #[.slice none 0 0, .int .i64 0, .int .i64 (e1 : Int)]) ?_ rfl ⟨.slice none 0 0, by rw [E.out]; rfl, by rw [E.out]; exact World.ownsRow_nil _ _ _ _, BR.out⟩
    simp [results, Tryd.results17, go_sem]
end Go.Proofs.YtdafiipedlglpaaDoor

/- A disk: walked. -/
namespace Go.Proofs.YtdafiipedlglpaaDoor
open Go.RowKit

theorem cutAddr_zero (g c : Nat) : cutAddr (some ⟨g, 0, none⟩) c 0 1 = some ⟨g, 0, none⟩ := by
  unfold cutAddr
  split
  · rfl
  · simp [Addr.add]
theorem encB_take (l : List UInt8) (k : Nat) : (encB l).take k = encB (l.take k) := by
  apply List.ext_getElem?
  intro i
  rw [List.getElem?_take, encB_at, encB_at, List.getElem?_take]
  split <;> rfl
theorem own_cutV {w : World} {base n c : Nat} {A : Option Addr} {l : List UInt8} (h : w.ownsRow base 5 1 (.slice A n c) n (encB l)) (hl : l.length = n) {k : Nat} (hk : k ≤ n) :
    w.ownsRow base 5 1 (.slice (cutAddr A c 0 1) k c) k (encB (l.take k)) ∧ ∀ q, (Value.slice (cutAddr A c 0 1) k c).ownBlock = some q → (Value.slice A n c).ownBlock = some q := by
  have h0 := h
  rcases h.2 with ⟨h1, h2⟩ | ⟨g, cap, cur, e, _⟩
  · injection h1 with e1 e2 e3
    subst e1 e2 e3
    have : k = 0 := by omega
    subst this
    have : cutAddr none 0 0 1 = none := rfl
    rw [this, List.take_zero]
    exact ⟨World.ownsRow_nil _ _ _ _, fun q e => e⟩
  · injection e with e1 e2 e3
    subst e1 e3
    rw [cutAddr_zero]
    have h3 := own_cut h0 hk
    rw [Nat.mul_one, encB_take] at h3
    exact ⟨h3, fun q e => e⟩
theorem madeCells_one30 (z : Value) (n : Nat) : madeCells #[z] n = Array.replicate n z := by
  unfold madeCells
  apply Array.ext_getElem?
  intro i
  simp
  by_cases hi : i < n
  · simp [hi, Nat.mod_one]
  · simp [hi]

theorem mkBytes (n : Nat) (hn : n ≤ 10000000) (w : World) : (Instr.makeSlice 50 (.int .i64 (n : Int)) (.int .i64 (n : Int))).run Tryd.prog w = .ok (.slice (some ⟨w.heap.size, 0, none⟩) n n) (w.alloc (.cells (Array.replicate n (.int .u8 0)) 5)) := by
  obtain ⟨i, hi, hz, hsz, hby⟩ := byteI
  have h : (i.bytes : Int) * (n : Int) ≤ 281474976710656 := by rw [hby]; omega
  have hr := run_make (P := Tryd.prog) w 50 5 i _ Tryd.underlying50 hi hz .i64 .i64 (n : Int) (n : Int) (by omega) (by omega) h (by omega)
  have e1 : ((n : Nat) : Int).toNat = n := by omega
  rw [e1, hsz, Nat.mul_one, show (Value.int .u8 0).cells = #[.int .u8 0] from rfl, madeCells_one30] at hr
  exact hr
/-- a disk as it lies; F holds its blocks -/
structure DiskAt (w : World) (F : Nat → Prop) (d : Nat) (l : List UInt8) (s : Nat) : Prop where
  ex : ∃ v, Blk w d 64 #[v, .int .i64 (s : Int)] ∧ w.ownsRow 0 5 1 v l.length (encB l) ∧ ∀ k, v.ownBlock = some k → F k
  fd : F d
  lt : ∀ q, F q → q < w.heap.size
  le : s ≤ l.length
theorem DiskAt.stay {w w' : World} {F : Nat → Prop} {d s : Nat} {l : List UInt8} (h : DiskAt w F d l s) (hk : Stay F w w') : DiskAt w' F d l s := by
  obtain ⟨v, h1, h2, h3⟩ := h.ex
  exact ⟨⟨v, h1.keep (hk.2 d (h.lt d h.fd) h.fd), own_keepF h2 (fun k e => hk.2 k (h2.lt k e).2 (h3 k e)), h3⟩, h.fd, fun q e => Nat.lt_of_lt_of_le (h.lt q e) hk.1, h.le⟩
theorem DiskAt.ext {w w' : World} {F : Nat → Prop} {d s : Nat} {l : List UInt8} (h : DiskAt w F d l s) (hb : Below w.heap.size w w') : DiskAt w' F d l s := h.stay (Stay.of_below hb)
def DskRet (w : World) (F : Nat → Prop) (d : Nat) (l : List UInt8) (s : Nat) (v : Value) (e : Ending) (w' : World) : Prop := e = .returned v ∧ Kept F w w' ∧ ∃ F', DiskAt w' F' d l s ∧ ∀ q, F' q → F q ∨ w.heap.size ≤ q
theorem buildDisk0 (w : World) : (Instr.build 64 #[]).run Tryd.prog w = .ok (.agg #[.slice none 0 0, .int .i64 0]) w := by kernel_rfl
set_option maxRecDepth 100000 in
set_option maxHeartbeats 2000000 in
theorem diskNew_any (w : World) : Calls Tryd.prog 12 #[] w (fun e w' => e = .returned (.pointer (some ⟨w.heap.size, 0, none⟩)) ∧ Below w.heap.size w w' ∧ DiskAt w' (fun k => k = w.heap.size) w.heap.size [] 0) := by
  go_enter Tryd.func12, Tryd.ntmps12
  go_wp2_with (refine wpList_built (buildDisk0 _) (by rfl) ?_)
  go_ret
  exact ⟨rfl, below_new _ _, ⟨_, Blk.new _ _ _, World.ownsRow_nil _ _ _ _, fun k e => by cases e⟩, rfl, fun q e => by rw [e]; simp, Nat.le_refl _⟩
set_option maxRecDepth 100000 in
set_option maxHeartbeats 2000000 in
theorem diskLen_any {w : World} {F : Nat → Prop} {d s : Nat} {l : List UInt8} (h : DiskAt w F d l s) : Calls Tryd.prog 14 #[.pointer (some ⟨d, 0, none⟩)] w (Ret w (.int .i64 (l.length : Int))) := by
  obtain ⟨v, K, O, _⟩ := h.ex
  obtain ⟨A, c, rfl, _, _⟩ := Sl.of_own O
  have y0 : w.cell? ⟨d, 0, none⟩ = some (.slice A l.length c) := K.cell 0
  clear K O h
  go_enter Tryd.func14, Tryd.ntmps14
  go_wp2
  go_ret
  exact ⟨rfl, rfl⟩
set_option maxRecDepth 100000 in
set_option maxHeartbeats 2000000 in
theorem diskSure_any {w : World} {F : Nat → Prop} {d s : Nat} {l : List UInt8} (h : DiskAt w F d l s) : Calls Tryd.prog 24 #[.pointer (some ⟨d, 0, none⟩)] w (Ret w (.int .i64 (s : Int))) := by
  obtain ⟨v, K, O, _⟩ := h.ex
  have y1 : w.cell? ⟨d, 1, none⟩ = some (.int .i64 (s : Int)) := K.cell 1
  clear K O h
  go_enter Tryd.func24, Tryd.ntmps24
  go_wp2
  go_ret
  exact ⟨rfl, rfl⟩
set_option maxRecDepth 100000 in
set_option maxHeartbeats 2000000 in
theorem diskSync_any {w : World} {F : Nat → Prop} {d s : Nat} {l : List UInt8} (h : DiskAt w F d l s) : Calls Tryd.prog 15 #[.pointer (some ⟨d, 0, none⟩)] w (DskRet w F d l l.length (.tuple #[])) := by
  have H := Lib.hid h
  obtain ⟨v, K, O, hv⟩ := h.ex
  obtain ⟨A, c, rfl, _, _⟩ := Sl.of_own O
  have y0 : w.cell? ⟨d, 0, none⟩ = some (.slice A l.length c) := K.cell 0
  have y1 : w.cell? ⟨d, 1, none⟩ = some (.int .i64 (s : Int)) := K.cell 1
  have f1 : w.frozen? ⟨d, 1, none⟩ = false := K.fr 1
  have KH := Lib.hid K
  have OH := Lib.hid O
  have HV := Lib.hid hv
  clear K O h hv
  go_enter Tryd.func15, Tryd.ntmps15
  go_wp2
  go_end0
  have k2 : Kept (fun k => k = d) w (w.setCell ⟨d, 1, none⟩ (.int .i64 (l.length : Int))) := (Kept.refl (fun k => k = d) w).setCell (p := ⟨d, 1, none⟩) (.inl rfl) _
  refine ⟨rfl, k2.mono fun k e => e ▸ H.out.fd, F, ⟨⟨_, ?_, own_keepF OH.out (fun k e => k2.block k (OH.out.lt k e).2 fun e2 => own_ne_blk OH.out KH.out (by decide) e e2), HV.out⟩, H.out.fd, fun q e => Nat.lt_of_lt_of_le (H.out.lt q e) k2.size, Nat.le_refl _⟩, fun q e => .inl e⟩
  have := KH.out.set_ 1 (.int .i64 (l.length : Int))
  simpa using this
set_option maxRecDepth 100000 in
set_option maxHeartbeats 2000000 in
theorem diskAppend_any {w : World} {F : Nat → Prop} {d s : Nat} {l : List UInt8} (h : DiskAt w F d l s) (x : List UInt8) (A : Option Addr) (m c : Nat) (hx : BytesAt w A m c x) (hl : l.length + m ≤ 10000000) :
    Calls Tryd.prog 22 #[.pointer (some ⟨d, 0, none⟩), .slice A m c] w (DskRet w F d (l ++ x) s (.int .i64 0)) := by
  have H := Lib.hid h
  have hm := hx.len
  obtain ⟨v, K, O, hv⟩ := h.ex
  obtain ⟨A0, c0, rfl, _, _⟩ := Sl.of_own O
  have y0 : w.cell? ⟨d, 0, none⟩ = some (.slice A0 l.length c0) := K.cell 0
  have KH := Lib.hid K
  have OH := Lib.hid O
  have HV := Lib.hid hv
  have XH := Lib.hid hx.sl
  replace hm := Lib.hid hm
  clear K O h hv hx
  go_enter Tryd.func22, Tryd.ntmps22
  go_wp2_with (at_builtin; refine wpList_catB byteSl OH.out XH.out (encB_one x) (Nat.zero_le _) (by omega) (by unfold maxLen; omega) (by rfl) (by rfl) ?_; intro v1 w6 own1 kp hv1; obtain ⟨A1, c1, rfl, _, _⟩ := Sl.of_own own1; have K6 : Hid (Blk w6 d 64 #[.slice A0 l.length c0, .int .i64 (s : Int)]) := KH.out.keep (kp.block d KH.out.lt fun e => own_ne_blk OH.out KH.out (by decide) e rfl); have y6 : w6.cell? ⟨d, 0, none⟩ = some (.slice A0 l.length c0) := K6.out.cell 0; have f6 : w6.frozen? ⟨d, 0, none⟩ = false := K6.out.fr 0)
  go_ret
  have k2 : Kept (fun k => k = d) w6 (w6.setCell ⟨d, 0, none⟩ (.slice A1 (l.length + m) c1)) := (Kept.refl (fun k => k = d) w6).setCell (p := ⟨d, 0, none⟩) (.inl rfl) _
  refine ⟨rfl, (kp.mono fun k e => HV.out k e).trans k2 fun x e => .inl (e ▸ H.out.fd), fun q => F q ∨ (Value.slice A1 (l.length + m) c1).ownBlock = some q, ⟨⟨_, ?_, ?_, fun k e => .inr e⟩, .inl H.out.fd, fun q e => ?_, ?_⟩, fun q e => ?_⟩
  · have := K6.out.set_ 0 (.slice A1 (l.length + m) c1)
    simpa using this
  · rw [List.length_append, encB_append, hm.out]
    exact own_keepF own1 fun k e => k2.block k (own1.lt k e).2 fun e2 => own_ne_blk own1 K6.out (by decide) e e2
  · have hz := k2.size
    rcases e with e | e
    · have := H.out.lt q e
      have := kp.size
      omega
    · exact Nat.lt_of_lt_of_le (own1.lt q e).2 hz
  · rw [List.length_append]; have := H.out.le; omega
  · rcases e with e | e
    · exact .inl e
    · exact (hv1 q e).elim (fun e => .inl (HV.out q e)) .inr
set_option maxRecDepth 100000 in
set_option maxHeartbeats 2000000 in
theorem diskCut_any {w : World} {F : Nat → Prop} {d s : Nat} {l : List UInt8} (h : DiskAt w F d l s) (n : Nat) (hn : n ≤ l.length) :
    Calls Tryd.prog 19 #[.pointer (some ⟨d, 0, none⟩), .int .i64 (n : Int)] w (DskRet w F d (l.take n) n (.int .i64 0)) := by
  have H := Lib.hid h
  obtain ⟨v, K, O, hv⟩ := h.ex
  obtain ⟨A0, c0, rfl, hc0, _⟩ := Sl.of_own O
  have y0 : w.cell? ⟨d, 0, none⟩ = some (.slice A0 l.length c0) := K.cell 0
  have y1 : w.cell? ⟨d, 1, none⟩ = some (.int .i64 (s : Int)) := K.cell 1
  have f0 : w.frozen? ⟨d, 0, none⟩ = false := K.fr 0
  have f1 : w.frozen? ⟨d, 1, none⟩ = false := K.fr 1
  have n0 : ¬ (n : Int) < 0 := by omega
  have n1 : ¬ (l.length : Int) < (n : Int) := by omega
  have CH := Lib.hid (fun u => run_slice_high byteSl (A := A0) (n := l.length) (c := c0) (k := n) (by omega) u)
  obtain ⟨o2, hv2⟩ := own_cutV O rfl hn
  have KH := Lib.hid K
  have OH := Lib.hid o2
  have HV : Hid (∀ q, (Value.slice (cutAddr A0 c0 0 1) n c0).ownBlock = some q → F q) := fun q e => hv q (hv2 q e)
  clear K O h hv o2 hv2
  generalize cutAddr A0 c0 0 1 = A1 at *
  go_enter Tryd.func19, Tryd.ntmps19
  go_wp2_with (refine wpList_slB rfl rfl rfl rfl (CH.out _) ?_)
  go_ret
  have k2 : Kept (fun k => k = d) w ((w.setCell ⟨d, 0, none⟩ (.slice A1 n c0)).setCell ⟨d, 1, none⟩ (.int .i64 (n : Int))) := ((Kept.refl (fun k => k = d) w).setCell (p := ⟨d, 0, none⟩) (.inl rfl) _).setCell (p := ⟨d, 1, none⟩) (.inl rfl) _
  have K2 : Blk ((w.setCell ⟨d, 0, none⟩ (.slice A1 n c0)).setCell ⟨d, 1, none⟩ (.int .i64 (n : Int))) d 64 #[.slice A1 n c0, .int .i64 (n : Int)] := by
    have := (KH.out.set_ 0 (.slice A1 n c0)).set_ 1 (.int .i64 (n : Int))
    simpa using this
  have ln : (l.take n).length = n := by rw [List.length_take]; omega
  refine ⟨rfl, k2.mono fun k e => e ▸ H.out.fd, F, ⟨⟨_, K2, ?_, HV.out⟩, H.out.fd, fun q e => Nat.lt_of_lt_of_le (H.out.lt q e) k2.size, Nat.le_of_eq ln.symm⟩, fun q e => .inl e⟩
  rw [ln]
  exact own_keepF OH.out (fun k e => k2.block k (OH.out.lt k e).2 fun e2 => own_ne_blk OH.out KH.out (by decide) e e2)
def keepN (l s : Nat) (x : Int) : Nat := s + min x.toNat (l - s)
set_option maxRecDepth 100000 in
set_option maxHeartbeats 4000000 in
theorem diskCrash_any {w : World} {F : Nat → Prop} {d s : Nat} {l : List UInt8} (h : DiskAt w F d l s) (x : Int) (hx0 : -9223372036854775808 ≤ x) (hx1 : x ≤ 9223372036854775807) (hl : l.length ≤ 10000000) :
    Calls Tryd.prog 13 #[.pointer (some ⟨d, 0, none⟩), .int .i64 x] w (DskRet w F d (l.take (keepN l.length s x)) (keepN l.length s x) (.tuple #[])) := by
  have hle := h.le
  obtain ⟨v, K, O, hv⟩ := h.ex
  obtain ⟨A0, c0, rfl, hc0, _⟩ := Sl.of_own O
  have y0 : w.cell? ⟨d, 0, none⟩ = some (.slice A0 l.length c0) := K.cell 0
  have y1 : w.cell? ⟨d, 1, none⟩ = some (.int .i64 (s : Int)) := K.cell 1
  have H := Lib.hid h
  obtain ⟨m, hm⟩ : ∃ m, m = keepN l.length s x := ⟨_, rfl⟩
  rw [← hm]
  have hml : m ≤ l.length := by rw [hm]; unfold keepN; omega
  clear K O h hv
  have w1 : IntKind.i64.wrap ((l.length : Int) - (s : Int)) = (l.length : Int) - (s : Int) := IntWalk.i64_in _ (by omega)
  have e : Hid ((s : Int) + min (max x 0) ((l.length : Int) - (s : Int)) = (m : Int)) := by rw [Hid, hm]; unfold keepN; omega
  replace hm := Lib.hid hm
  go_enter Tryd.func13, Tryd.ntmps13
  go_wp2_with fail
  refine wp_region_drawn 19 (by kernel_rfl) (by kernel_rfl) ?_
  simp only [List.take_succ_cons, List.take_zero, List.drop_succ_cons, List.drop_zero]
  repeat go_big_quiet_step (fail)
  refine wpQuiet_nil ?_
  rintro _ ⟨nq, rfl⟩
  rw [e.out]
  have BD : Hid (Below w.heap.size w (w.drewN nq)) := below_drewN (Below.refl _ _) nq
  have HC := Lib.hid (diskCut_any (H.out.ext BD.out) m hml)
  clear y0 y1 e
  generalize w.drewN nq = w2 at *
  go_wp2_with fail
  refine HC.out.mono ?_
  rintro e w3 ⟨rfl, kp, F', h1, h2⟩
  go_wp2
  go_end0
  exact ⟨rfl, (Kept.of_below BD.out).trans kp fun x e => .inl e, F', h1, fun q e => (h2 q e).elim .inl fun e => .inr (Nat.le_trans BD.out.size e)⟩
theorem splice_all {L cs : List Value} (h : cs.length = L.length) : splice L 0 cs = cs := by
  unfold splice
  rw [List.take_zero, Nat.zero_add, List.drop_of_length_le (by omega), List.append_nil, List.nil_append]
set_option maxRecDepth 100000 in
set_option maxHeartbeats 2000000 in
theorem diskBytes_any {w : World} {F : Nat → Prop} {d s : Nat} {l : List UInt8} (h : DiskAt w F d l s) (hl : l.length ≤ 10000000) : Calls Tryd.prog 16 #[.pointer (some ⟨d, 0, none⟩)] w (OwnedRet w 5 1 l.length (encB l)) := by
  obtain ⟨v, K, O, _⟩ := h.ex
  obtain ⟨A, c, rfl, hc, S⟩ := Sl.of_own O
  have HL := Lib.hid (diskLen_any h)
  have MK := fun u => mkBytes l.length hl u
  have B1 : Hid (Below w.heap.size w (w.alloc (.cells (Array.replicate l.length (.int .u8 0)) 5))) := below_new _ _
  have K1 := Lib.hid (K.ext B1.out)
  have S1 := Lib.hid (S.below B1.out (Nat.le_refl _))
  have HG : Hid ((w.alloc (.cells (Array.replicate l.length (.int .u8 0)) 5)).heap[w.heap.size]? = some (.cells (List.replicate l.length (Value.int .u8 0)).toArray 5 (0, 0))) := by
    rw [Hid, List.toArray_replicate]
    exact heap_alloc_new w _
  clear K O h S
  go_enter Tryd.func16, Tryd.ntmps16
  go_wp2_with fail
  refine HL.out.mono ?_
  rintro e _ ⟨rfl, rfl⟩
  clear HL
  go_upto_region 2 with fail
  clear MK
  generalize (w.alloc (.cells (Array.replicate l.length (.int .u8 0)) 5)) = w1 at *
  obtain ⟨g, hg⟩ : ∃ g, g = w.heap.size := ⟨_, rfl⟩
  rw [← hg] at HG ⊢
  replace hg := Lib.hid hg
  have y0 : w1.cell? ⟨d, 0, none⟩ = some (.slice A l.length c) := K1.out.cell 0
  have HPOS : Hid (0 < (encB l).length → some (⟨g, 0, none⟩ : Addr) = some ⟨g, 0, none⟩ ∧ ∃ ad, A = some ad ∧ ∀ j v, (encB l)[j]? = some v → w1.cell? (ad.add j) = some v) := fun hp => by
    rw [encB_len] at hp
    obtain ⟨b, o, rfl, _, hcell⟩ := S1.out.2 hp
    refine ⟨rfl, _, rfl, fun j v hv => ?_⟩
    have hj := (List.getElem?_eq_some_iff.1 hv).1
    rw [encB_len] at hj
    have := hcell j (by omega)
    rw [hv] at this
    simpa [Addr.add_mid] using this
  go_wp2_with (refine wpList_copy_splice rfl (.tmp 9) (.tmp 13) 50 50 rfl 5 Tryd.underlying50 (by kernel_rfl) (some ⟨g, 0, none⟩) A l.length l.length l.length c (by rfl) (by rfl) g 0 (List.replicate l.length (.int .u8 0)) 5 HG.out (encB l) (by rw [encB_len]; exact (Nat.min_self _).symm) HPOS.out (by rw [encB_len, List.length_replicate]; omega) (encB_one l) w.heap.size w B1.out (Nat.le_of_eq hg.out.symm) ?_; intro w3 hw3 hb3)
  go_ret
  rw [splice_all (by rw [encB_len, List.length_replicate])] at hw3
  exact ⟨_, rfl, ⟨by rw [encB_len]; omega, .inr ⟨g, l.length, _, rfl, Nat.le_of_eq hg.out.symm, hw3.out, Nat.le_refl _, by unfold maxLen; omega, by simp [encB_len], by simp; exact (List.take_of_length_le (by rw [encB_len]; exact Nat.le_refl _))⟩⟩, hb3⟩
end Go.Proofs.YtdafiipedlglpaaDoor

/- A log: what is appended, made sure, and told: walked. -/
namespace Go.Proofs.YtdafiipedlglpaaDoor
open Go.RowKit

def encI (ns : List Nat) : List Value := ns.map fun (n : Nat) => Value.int .i64 (n : Int)
theorem encI_append (a b : List Nat) : encI (a ++ b) = encI a ++ encI b := by unfold encI; rw [List.map_append]
theorem intSl30 : SlT Tryd.prog 47 3 1 8 := slT_of Tryd.underlying47 (z := .int .i64 0) (by kernel_rfl) rfl (by omega)
theorem fill_one30 {cells : Array Value} (hc : cells.size = 1) (k : Int) : Instr.fill (fun i => some (i * 1, 1)) cells [(0, .int .i64 k)] = some #[.int .i64 k] := by
  match cells, hc with
  | ⟨[u]⟩, _ => rfl
theorem wp_one30 {P : Program} {Q : Exit → Act → World → Prop} {K : Act → World → Prop} {a : Act} {w : World} {d : Option Tmp} {ty t e : TypeId} {bytes : Nat} (T : SlT P t e 1 bytes) {pos : String} {after : Array Edge} {gd : Option (Nat × Bool)} {x : Operand} {k : Int} (hx : a.eval x = .int .i64 k)
    (h : K (a.put d (.slice (some ⟨w.heap.size, 0, none⟩) 1 1)) (w.alloc (.cells #[.int .i64 k] e))) : Oper.wp P ⟨d, .buildSlice t 1 #[(0, x)], ty, pos, after, gd⟩ a w K Q := by
  obtain ⟨i, z, hi, hz, hsz, hby, hzs⟩ := T.hi
  refine wp_buildSlice t e 1 #[(0, x)] rfl #[.int .i64 k] i z T.ht hi hz (by rw [hsz]; omega) (by rw [hsz]; omega) ?_ h
  rw [hsz]
  have := fill_one30 (cells := (Array.range (1 * 1)).map (z.cells[· % z.cells.size]!)) (by simp) k
  simpa [hx] using this
theorem wpPure30 {P : Program} {Q : Exit → Act → World → Prop} {K : Act → World → Prop} {a : Act} {w : World} {o : Oper} {v : Value} (h : (execOp a.eval o).run P w = .ok (.value v) w) (hk : K (a.put o.dst v) w) : Oper.wp P o a w K Q := by
  unfold Oper.wp
  rw [h]
  exact hk
theorem fieldLg0 (g : Nat) (w : World) : (Instr.fieldAt 49 (.pointer (some ⟨g, 0, none⟩)) 0).run Tryd.prog w = .ok (.pointer (some ⟨g, 0, none⟩)) w := by simp [go_sem]
theorem fieldLg1 (g : Nat) (w : World) : (Instr.fieldAt 49 (.pointer (some ⟨g, 0, none⟩)) 1).run Tryd.prog w = .ok (.pointer (some ⟨g, 1, none⟩)) w := by simp [go_sem]
theorem loadLgD (b o : Nat) (w : World) (p : Option Addr) (h : w.cell? ⟨b, o, none⟩ = some (.pointer p)) : (Instr.loadAt 40 (.pointer (some ⟨b, o, none⟩))).run Tryd.prog w = .ok (.pointer p) w := by simp [go_sem, h]
theorem loadLgE (b o : Nat) (w : World) (A : Option Addr) (n c : Nat) (h : w.cell? ⟨b, o, none⟩ = some (.slice A n c)) : (Instr.loadAt 47 (.pointer (some ⟨b, o, none⟩))).run Tryd.prog w = .ok (.slice A n c) w := by simp [go_sem, h]
theorem storeLgE (b o : Nat) (w : World) (A : Option Addr) (n c : Nat) {u : Value} (h : w.cell? ⟨b, o, none⟩ = some u) (hf : w.frozen? ⟨b, o, none⟩ = false) : (Instr.storeAt 47 (.pointer (some ⟨b, o, none⟩)) (.slice A n c)).run Tryd.prog w = .ok () (w.setCell ⟨b, o, none⟩ (.slice A n c)) := by simp [go_sem, h, hf]
/-- a log as it lies; F holds its blocks and its disk's -/
structure LogAt (w : World) (F : Nat → Prop) (lb d : Nat) (l : List UInt8) (ends : List Nat) (s : Nat) : Prop where
  ex : ∃ D ev, DiskAt w D d l s ∧ Blk w lb 49 #[.pointer (some ⟨d, 0, none⟩), ev] ∧ w.ownsRow 0 3 1 ev ends.length (encI ends) ∧ (∀ k, D k → F k ∧ k ≠ lb ∧ ev.ownBlock ≠ some k) ∧ (∀ k, ev.ownBlock = some k → F k)
  fl : F lb
  lt : ∀ q, F q → q < w.heap.size
theorem LogAt.stay {w w' : World} {F : Nat → Prop} {lb d s : Nat} {l : List UInt8} {ends : List Nat} (h : LogAt w F lb d l ends s) (hk : Stay F w w') : LogAt w' F lb d l ends s := by
  obtain ⟨D, ev, h1, h2, h3, h4, h5⟩ := h.ex
  exact ⟨⟨D, ev, h1.stay (hk.mono fun k e => (h4 k e).1), h2.keep (hk.2 lb (h.lt lb h.fl) h.fl), own_keepF h3 (fun k e => hk.2 k (h3.lt k e).2 (h5 k e)), h4, h5⟩, h.fl, fun q e => Nat.lt_of_lt_of_le (h.lt q e) hk.1⟩
theorem LogAt.ext {w w' : World} {F : Nat → Prop} {lb d s : Nat} {l : List UInt8} {ends : List Nat} (h : LogAt w F lb d l ends s) (hb : Below w.heap.size w w') : LogAt w' F lb d l ends s := h.stay (Stay.of_below hb)
theorem LogAt.disk {w : World} {F : Nat → Prop} {lb d s : Nat} {l : List UInt8} {ends : List Nat} (h : LogAt w F lb d l ends s) : ∃ D, DiskAt w D d l s ∧ ∀ k, D k → F k := by
  obtain ⟨D, ev, h1, h2, h3, h4, h5⟩ := h.ex
  exact ⟨D, h1, fun k e => (h4 k e).1⟩
def LgRet (w : World) (F : Nat → Prop) (lb d : Nat) (l : List UInt8) (ends : List Nat) (s : Nat) (v : Value) (e : Ending) (w' : World) : Prop := e = .returned v ∧ Kept F w w' ∧ ∃ F', LogAt w' F' lb d l ends s ∧ ∀ q, F' q → F q ∨ w.heap.size ≤ q
/-- the disk has turned -/
theorem log_disk {w w' : World} {F D D' : Nat → Prop} {lb d s' : Nat} {l' : List UInt8} {ends : List Nat} {ev : Value} (lt : ∀ q, F q → q < w.heap.size)
    (h2 : Blk w lb 49 #[.pointer (some ⟨d, 0, none⟩), ev]) (h3 : w.ownsRow 0 3 1 ev ends.length (encI ends)) (h4 : ∀ k, D k → F k ∧ k ≠ lb ∧ ev.ownBlock ≠ some k)
    (kp : Kept D w w') (hd : DiskAt w' D' d l' s') (hD : ∀ q, D' q → D q ∨ w.heap.size ≤ q) :
    Kept F w w' ∧ Blk w' lb 49 #[.pointer (some ⟨d, 0, none⟩), ev] ∧ w'.ownsRow 0 3 1 ev ends.length (encI ends) ∧ (∀ k, D' k → (F k ∨ D' k) ∧ k ≠ lb ∧ ev.ownBlock ≠ some k) ∧ (∀ q, F q ∨ D' q → q < w'.heap.size) ∧ (∀ q, F q ∨ D' q → F q ∨ w.heap.size ≤ q) := by
  refine ⟨kp.mono fun k e => (h4 k e).1, h2.keep (kp.block lb h2.lt fun e => (h4 lb e).2.1 rfl), own_keepF h3 (fun k e => kp.block k (h3.lt k e).2 fun e2 => (h4 k e2).2.2 e), fun k e => ⟨.inr e, ?_⟩, fun q e => ?_, fun q e => ?_⟩
  · rcases hD k e with e | e
    · exact (h4 k e).2
    · refine ⟨fun e2 => ?_, fun e2 => ?_⟩
      · have := h2.lt; omega
      · have := (h3.lt k e2).2; omega
  · rcases e with e | e
    · exact Nat.lt_of_lt_of_le (lt q e) kp.size
    · exact hd.lt q e
  · rcases e with e | e
    · exact .inl e
    · exact (hD q e).elim (fun e => .inl (h4 q e).1) .inr
set_option maxRecDepth 100000 in
set_option maxHeartbeats 2000000 in
theorem logLen_any {w : World} {F : Nat → Prop} {lb d s : Nat} {l : List UInt8} {ends : List Nat} (h : LogAt w F lb d l ends s) : Calls Tryd.prog 9 #[.pointer (some ⟨lb, 0, none⟩)] w (Ret w (.int .i64 (ends.length : Int))) := by
  obtain ⟨D, ev, h1, h2, h3, h4, h5⟩ := h.ex
  obtain ⟨A, c, rfl, _, _⟩ := Sl.of_own h3
  have y1 : w.cell? ⟨lb, 1, none⟩ = some (.slice A ends.length c) := h2.cell 1
  clear h h1 h2 h3 h4 h5
  go_enter Tryd.func9, Tryd.ntmps9
  go_wp2
  go_ret
  exact ⟨rfl, rfl⟩
set_option maxRecDepth 100000 in
set_option maxHeartbeats 2000000 in
theorem logSync_any {w : World} {F : Nat → Prop} {lb d s : Nat} {l : List UInt8} {ends : List Nat} (h : LogAt w F lb d l ends s) : Calls Tryd.prog 6 #[.pointer (some ⟨lb, 0, none⟩)] w (LgRet w F lb d l ends l.length (.tuple #[])) := by
  obtain ⟨D, ev, h1, h2, h3, h4, h5⟩ := h.ex
  have y0 : w.cell? ⟨lb, 0, none⟩ = some (.pointer (some ⟨d, 0, none⟩)) := h2.cell 0
  have HD := Lib.hid (diskSync_any h1)
  have H := Lib.hid h
  have X := Lib.hid (And.intro h2 (And.intro h3 (And.intro h4 h5)))
  clear h h1 h2 h3 h4 h5
  go_enter Tryd.func6, Tryd.ntmps6
  go_wp2_with fail
  refine HD.out.mono ?_
  rintro e w2 ⟨rfl, kp, D', hd, hD⟩
  go_wp2
  go_end0
  obtain ⟨h2, h3, h4, h5⟩ := X.out
  obtain ⟨k1, k2, k3, k4, k5, k6⟩ := log_disk H.out.lt h2 h3 h4 kp hd hD
  exact ⟨rfl, k1, _, ⟨⟨D', ev, hd, k2, k3, k4, fun k e => .inl (h5 k e)⟩, .inl H.out.fl, k5⟩, k6⟩
theorem search30 {w : World} {B : Nat} (ends : List Nat) (hs : ends.Pairwise (· ≤ ·)) (hel : ends.length ≤ 1000) (x : Nat) {A : Option Addr} {c : Nat} (S : Sl w B 1 A ends.length (encI ends)) :
    Calls Tryd.prog 23 #[.slice A ends.length c, .int .i64 (x : Int)] w (RetB w (.tuple #[.int .i64 (((ends.filter fun e => decide (e < x)).length : Nat) : Int), .bool ((ends.map fun (n : Nat) => (n : Int)).contains (x : Int))])) := by
  cases he : ends with
  | nil => exact (Tryd.slices_BinarySearch_int_empty A c (x : Int) w).mono fun e w' ⟨h1, h2⟩ => ⟨h1, by rw [h2]; exact Below.refl _ _⟩
  | cons e0 es =>
    rw [← he]
    have hp : 0 < ends.length := by rw [he]; simp
    obtain ⟨b, o, rfl, _, hc⟩ := S.2 hp
    obtain ⟨zs, hz⟩ : ∃ zs, zs = ends.map fun (n : Nat) => (n : Int) := ⟨_, rfl⟩
    have hzl : zs.length = ends.length := by rw [hz, List.length_map]
    have hcc : ∀ j, j < zs.length → w.cell? ⟨b, o + j, none⟩ = some (.int .i64 (zs.getD j 0)) := fun j hj => by
      rw [hc j (by omega), hz]
      unfold encI
      rw [List.getElem?_map, List.getElem?_eq_getElem (by omega), List.getD_eq_getElem?_getD, List.getElem?_map, List.getElem?_eq_getElem (by omega)]
      rfl
    have hss : (zs.take ends.length).Pairwise (· ≤ ·) := by
      rw [List.take_of_length_le (by omega), hz]
      exact List.pairwise_map.2 (hs.imp fun h => by omega)
    have hcnt : (zs.take ends.length).countP (· < (x : Int)) = (ends.filter fun e => decide (e < x)).length := by
      rw [List.take_of_length_le (by omega), hz, List.countP_map, List.countP_eq_length_filter]
      congr 1
      apply List.filter_congr
      intro e _
      simp
    have hr := Tryd.slices_BinarySearch_int b o ends.length c zs (x : Int) w (by omega) (by omega) hcc hss
    refine hr.mono fun e w' ⟨h1, n, h2⟩ => ⟨?_, by rw [h2]; exact below_drewN (Below.refl _ _) n⟩
    rw [h1, hcnt, List.take_of_length_le (by omega), hz]
set_option maxRecDepth 100000 in
set_option maxHeartbeats 4000000 in
theorem logSure_any {w : World} {F : Nat → Prop} {lb d s : Nat} {l : List UInt8} {ends : List Nat} (h : LogAt w F lb d l ends s) (hs : ends.Pairwise (· ≤ ·)) (hl : l.length ≤ 10000000) (hel : ends.length ≤ 1000) :
    Calls Tryd.prog 10 #[.pointer (some ⟨lb, 0, none⟩)] w (RetB w (.int .i64 (((ends.filter fun e => decide (e ≤ s)).length : Nat) : Int))) := by
  obtain ⟨D, ev, h1, h2, h3, h4, h5⟩ := h.ex
  have hle := h1.le
  obtain ⟨A, c, rfl, _, S⟩ := Sl.of_own h3
  have HB := Lib.hid (fun z : Ext w => search30 ends hs hel (s + 1) (A := A) (c := c) (S.below z.h (Nat.le_refl _)))
  have HD := Lib.hid (fun z : Ext w => diskSure_any (h1.ext z.h))
  have c0 : w.cell? ⟨lb, 0, none⟩ = some (.pointer (some ⟨d, 0, none⟩)) := h2.cell 0
  have c1 : w.cell? ⟨lb, 1, none⟩ = some (.slice A ends.length c) := h2.cell 1
  have q0 := ext_cell c0 h2.lt
  have q1 := ext_cell c1 h2.lt
  clear c0 c1
  have hw : IntKind.i64.wrap ((s : Int) + 1) = ((s + 1 : Nat) : Int) := by rw [IntWalk.i64_in _ (by omega)]; omega
  have hcnt : (ends.filter fun e => decide (e < s + 1)) = ends.filter fun e => decide (e ≤ s) := List.filter_congr fun e _ => by
    rw [decide_eq_decide]; omega
  rw [hcnt] at HB
  generalize (ends.filter fun e => decide (e ≤ s)).length = N at *
  generalize ((ends.map fun (n : Nat) => (n : Int)).contains ((s + 1 : Nat) : Int)) = bb at *
  obtain ⟨ne, hne⟩ : ∃ ne, ne = ends.length := ⟨_, rfl⟩
  rw [← hne] at HB q1
  clear hs h h1 h2 h3 h4 h5 S hcnt hne
  go_enter Tryd.func10, Tryd.ntmps10
  go_wp2_with fail
  refine wp_region_ext mixedS (by kernel_rfl) ?_
  repeat (go_big_quiet_step ((first
    | (go_at_call 24; exact ext_ret (HD.out _))
    | (go_at_call 23; exact ext_call (HB.out _)))))
  refine wpQuiet_nil ?_
  rintro _ ⟨z, rfl⟩
  have W := Lib.hid z.h
  generalize z.w = w4 at *
  go_wp2
  go_ret
  exact ⟨rfl, W.out⟩
set_option maxRecDepth 100000 in
set_option maxHeartbeats 8000000 in
theorem logAppend_any {w : World} {F : Nat → Prop} {lb d s : Nat} {l : List UInt8} {ends : List Nat} (h : LogAt w F lb d l ends s) (hl : l.length ≤ 900000) (hel : ends.length ≤ 1000) (p : PatV) (cs : List Value) (hp : PatAt w cs p) (hFo : FourOk w) :
    Calls Tryd.prog 8 #[.pointer (some ⟨lb, 0, none⟩), .agg cs.toArray] w (fun e w' => (patB p = true → LgRet w F lb d (l ++ frameB (patBytes p)) (ends ++ [l.length + flen p]) s (.int .i64 0) e w') ∧ (patB p = false → e = .returned (.int .i64 1) ∧ Below w.heap.size w w')) := by
  have hp0 := hp
  obtain ⟨⟨Ap, cp, Ap', cp', rfl, _, _⟩, _, _⟩ := hp0
  have K0 : Hid (Blk (w.alloc (.cells (patC p.1 Ap p.2.1.length cp Ap' p.2.2.length cp').toArray 28)) w.heap.size 28 (patC p.1 Ap p.2.1.length cp Ap' p.2.2.length cp').toArray) := Blk.new _ _ _
  have B0 : Hid (Below w.heap.size w (w.alloc (.cells (patC p.1 Ap p.2.1.length cp Ap' p.2.2.length cp').toArray 28))) := below_new _ _
  have HE := Lib.hid (encode19_any p _ _ (hp.ext B0.out))
  have H := Lib.hid h
  have FO := Lib.hid hFo
  clear hp h hFo
  go_enter Tryd.func8, Tryd.ntmps8
  go_upto_region 1 with fail
  generalize (w.alloc (.cells (patC p.1 Ap p.2.1.length cp Ap' p.2.2.length cp').toArray 28)) = w2 at *
  go_wp2_with (refine wpList_load_row rfl 28 _ (by rfl) w.heap.size (by rfl) _ _ _ _ K0.out underPat rfl infoPat ?_)
  refine HE.out.mono ?_
  rintro e w3 ⟨h3, h3'⟩
  have hdec : patB p = false ∨ patB p = true := by cases patB p <;> simp
  rcases hdec with hpb | hpb
  · obtain ⟨rfl, b3⟩ := h3' hpb
    have HPB := Lib.hid hpb
    have B3 := Lib.hid (B0.out.trans (b3.mono B0.out.size))
    clear h3 h3' b3 HE K0 B0 hpb H
    go_wp2_with fail
    go_ret
    exact ⟨(fun h => by rw [HPB.out] at h; cases h), fun _ => ⟨rfl, B3.out⟩⟩
  · obtain ⟨v, rfl, own, b3⟩ := h3 hpb
    have HPB := Lib.hid hpb
    have hpl := patBytes_len hpb
    obtain ⟨P, hP⟩ : ∃ P, P = patBytes p := ⟨_, rfl⟩
    rw [← hP] at own hpl
    obtain ⟨n3, hn3⟩ : ∃ n3, n3 = P.length := ⟨_, rfl⟩
    rw [← hn3] at own hpl
    obtain ⟨A3, c3, rfl, ba⟩ := own_bytes own hn3.symm
    have B3 := Lib.hid (B0.out.trans (b3.mono B0.out.size))
    have HF := Lib.hid (frame06_any P w3 A3 n3 c3 ba (by omega) (four_ext FO.out B3.out))
    have hfl : Hid (flen p = (frameB P).length) := by rw [Hid, hP]; rfl
    replace hP := Lib.hid hP
    replace hn3 := Lib.hid hn3
    clear h3 h3' own ba b3 HE K0 B0 hpb FO
    go_wp2_with fail
    refine HF.out.mono ?_
    rintro e w5 ⟨v5, rfl, o5, b5⟩
    have B5 := Lib.hid (B3.out.trans (b5.mono B3.out.size))
    obtain ⟨Q, hQ⟩ : ∃ Q, Q = frameB P := ⟨_, rfl⟩
    have hQl : Q.length ≤ 30000 := by
      rw [hQ, frameB_len]
      have := vbytes_len 9 P.length (by have := hn3.out; omega)
      have := hn3.out
      omega
    rw [← hQ] at o5 hfl
    replace hQ := Lib.hid hQ
    obtain ⟨n5, hn5⟩ : ∃ n5, n5 = Q.length := ⟨_, rfl⟩
    rw [← hn5] at o5 hQl hfl
    obtain ⟨A5, c5, rfl, ba5⟩ := own_bytes o5 hn5.symm
    have H5 := H.out.ext B5.out
    obtain ⟨D, ev, h1, h2, h3, h4, h5⟩ := H5.ex
    have y0 : w5.cell? ⟨lb, 0, none⟩ = some (.pointer (some ⟨d, 0, none⟩)) := h2.cell 0
    have HA := Lib.hid (diskAppend_any h1 Q A5 n5 c5 ba5 (by omega))
    have HL5 := Lib.hid H5
    have X := Lib.hid (And.intro h2 (And.intro h3 (And.intro h4 h5)))
    clear o5 b5 ba5 HF B3 H5 h1 h2 h3 h4 h5 H
    replace hn5 := Lib.hid hn5
    obtain ⟨L, hL⟩ : ∃ L, L = l ++ Q := ⟨_, rfl⟩
    rw [← hL] at HA
    have hLl : Hid (L.length = l.length + n5) := by rw [Hid, hL, List.length_append, hn5.out]
    have hLb : Hid (L.length ≤ 10000000) := by rw [Hid, hLl.out]; omega
    replace hL := Lib.hid hL
    go_wp2_with fail
    refine HA.out.mono ?_
    rintro e w6 ⟨rfl, kp, D', hd, hD⟩
    obtain ⟨h2, h3, h4, h5⟩ := X.out
    obtain ⟨k1, k2, k3, k4, k5, k6⟩ := log_disk HL5.out.lt h2 h3 h4 kp hd hD
    obtain ⟨Ae, ce, rfl, _, _⟩ := Sl.of_own k3
    have K1 := Lib.hid k1
    have K2 := Lib.hid k2
    have K3 := Lib.hid k3
    have K4 := Lib.hid k4
    have K5 := Lib.hid k5
    have K6 := Lib.hid k6
    have HV5 := Lib.hid h5
    have HD6 := Lib.hid hd
    clear h2 h3 h4 h5 kp hd hD k1 k2 k3 k4 k5 k6 X HA y0
    go_upto_region 10 with fail
    have hcL : ∀ args u, (callFunc 14 args).run Tryd.prog u = .ok (.enter 14 args) u := enters_of Tryd.func14 (by kernel_rfl) rfl
    have EV : Hid (∀ u, Kept (fun k => (Value.slice Ae ends.length ce).ownBlock = some k) w6 u → Blk u lb 49 #[.pointer (some ⟨d, 0, none⟩), .slice Ae ends.length ce]) := fun u hu => K2.out.keep (hu.block lb K2.out.lt fun e => own_ne_blk K3.out K2.out (by decide) e rfl)
    refine wp_region_Z (S := fun w' => Kept (fun k => (Value.slice Ae ends.length ce).ownBlock = some k) w6 w') (Z := [14]) mixedS ?_
    have S0 : Hid (Kept (fun k => (Value.slice Ae ends.length ce).ownBlock = some k) w6 w6.drew) := Kept.of_below (Below.refl _ _).drew
    have b7 : Hid (Below w6.heap.size w6 w6.drew) := (Below.refl _ _).drew
    change wpAnyZ _ _ _ _ _ _ _ _ _ w6.drew
    generalize w6.drew = w7 at *
    simp only [List.size_toArray, List.length_cons, List.length_nil]
    refine zV (i := 0) rfl (by kernel_rfl) (by kernel_rfl) (by kernel_rfl) (by kernel_rfl) (by kernel_rfl) (fun _ _ _ h => h) rfl (fun w' h => exMove (v := .pointer (some ⟨lb, 0, none⟩)) rfl) S0.out ?_
    simp only [Act.put, List.setIfInBounds_toArray, List.set_cons_zero, List.set_cons_succ]
    refine zV (i := 1) rfl (by kernel_rfl) (by kernel_rfl) (by kernel_rfl) (by kernel_rfl) (by kernel_rfl) (fun _ _ _ h => h) rfl (fun w' h => exMove (v := .pointer (some ⟨lb, 0, none⟩)) rfl) S0.out ?_
    simp only [Act.put, List.setIfInBounds_toArray, List.set_cons_zero, List.set_cons_succ]
    refine zV (i := 2) rfl (by kernel_rfl) (by kernel_rfl) (by kernel_rfl) (by kernel_rfl) (by kernel_rfl) (fun _ _ _ h => h) rfl (fun w' h => exNil rfl) S0.out ?_
    simp only [Act.put, List.setIfInBounds_toArray, List.set_cons_zero, List.set_cons_succ]
    refine zV (i := 3) rfl (by kernel_rfl) (by kernel_rfl) (by kernel_rfl) (by kernel_rfl) (by kernel_rfl) (fun _ _ _ h => h) rfl (fun w' h => exField rfl (fieldLg1 lb w')) S0.out ?_
    simp only [Act.put, List.setIfInBounds_toArray, List.set_cons_zero, List.set_cons_succ]
    refine zV (i := 4) rfl (by kernel_rfl) (by kernel_rfl) (by kernel_rfl) (by kernel_rfl) (by kernel_rfl) (fun _ _ _ h => h) rfl (fun w' h => exLoad rfl (loadLgE lb 1 w' Ae ends.length ce ((EV.out w' h).cell 1))) S0.out ?_
    simp only [Act.put, List.setIfInBounds_toArray, List.set_cons_zero, List.set_cons_succ]
    refine zV (i := 5) rfl (by kernel_rfl) (by kernel_rfl) (by kernel_rfl) (by kernel_rfl) (by kernel_rfl) (fun _ _ _ h => h) rfl (fun w' h => exMove (v := .pointer (some ⟨lb, 0, none⟩)) rfl) S0.out ?_
    simp only [Act.put, List.setIfInBounds_toArray, List.set_cons_zero, List.set_cons_succ]
    refine zV (i := 6) rfl (by kernel_rfl) (by kernel_rfl) (by kernel_rfl) (by kernel_rfl) (by kernel_rfl) (fun _ _ _ h => h) rfl (fun w' h => exNil rfl) S0.out ?_
    simp only [Act.put, List.setIfInBounds_toArray, List.set_cons_zero, List.set_cons_succ]
    refine zV (i := 7) rfl (by kernel_rfl) (by kernel_rfl) (by kernel_rfl) (by kernel_rfl) (by kernel_rfl) (fun _ _ _ h => h) rfl (fun w' h => exField rfl (fieldLg0 lb w')) S0.out ?_
    simp only [Act.put, List.setIfInBounds_toArray, List.set_cons_zero, List.set_cons_succ]
    refine zV (i := 8) rfl (by kernel_rfl) (by kernel_rfl) (by kernel_rfl) (by kernel_rfl) (by kernel_rfl) (fun _ _ _ h => h) rfl (fun w' h => exLoad rfl (loadLgD lb 0 w' _ ((EV.out w' h).cell 0))) S0.out ?_
    simp only [Act.put, List.setIfInBounds_toArray, List.set_cons_zero, List.set_cons_succ]
    refine wpAnyZ_all (rs := [9]) (by kernel_rfl) (by simp) ?_
    intro i hi
    simp only [List.mem_cons, List.not_mem_nil, or_false] at hi
    subst hi
    refine wpOp_of rfl rfl (wp_called (args := #[.pointer (some ⟨d, 0, none⟩)]) hcL (by simp only [List.map_toArray, List.map_cons, List.map_nil]; rfl) (diskLen_any (HD6.out.ext b7.out)) ?_)
    rintro e _ ⟨rfl, rfl⟩
    refine ⟨_, rfl, fun _ => S0.out, ?_⟩
    simp only [Act.put, List.setIfInBounds_toArray, List.set_cons_zero, List.set_cons_succ]
    refine wpAnyZ_all (rs := [10]) (by kernel_rfl) (by simp) ?_
    intro i hi
    simp only [List.mem_cons, List.not_mem_nil, or_false] at hi
    subst hi
    refine wpOp_of rfl rfl (wp_one30 intSl30 rfl ?_)
    refine ⟨fun _ => S0.out.then (below_new _ _), ?_⟩
    simp only [Act.put, List.setIfInBounds_toArray, List.set_cons_zero, List.set_cons_succ]
    have K7 := Lib.hid (K2.out.ext b7.out)
    have O7 := Lib.hid (own_ext K3.out b7.out)
    have D7 := Lib.hid (HD6.out.ext b7.out)
    refine wpAnyZ_all (rs := [11]) (by kernel_rfl) (by simp) ?_
    intro i hi
    simp only [List.mem_cons, List.not_mem_nil, or_false] at hi
    subst hi
    refine wpOp_of rfl rfl (wp_pushF intSl30 O7.out [.int .i64 (L.length : Int)] rfl (by simp [Value.oneCell']) (Nat.zero_le _) (by omega) (by unfold maxLen; omega) (by rfl) (by rfl) (by rfl) ?_)
    intro v1 w8 own1 kp8 hv1
    obtain ⟨A1, c1, rfl, _, _⟩ := Sl.of_own own1
    have K8 : Hid (Blk w8 lb 49 #[.pointer (some ⟨d, 0, none⟩), .slice Ae ends.length ce]) := K7.out.keep (kp8.block lb K7.out.lt fun e => own_ne_blk O7.out K7.out (by decide) e rfl)
    have S8 : Hid (Kept (fun k => (Value.slice Ae ends.length ce).ownBlock = some k) w6 w8) := S0.out.trans kp8 fun x e => .inl e
    refine ⟨fun _ => S8.out, ?_⟩
    simp only [Act.put, List.setIfInBounds_toArray, List.set_cons_zero, List.set_cons_succ]
    refine wpAnyZ_all (rs := [12]) (by kernel_rfl) (by simp) ?_
    intro i hi
    simp only [List.mem_cons, List.not_mem_nil, or_false] at hi
    subst hi
    refine wpOp_of rfl rfl (wpPure30 (exNil rfl) ?_)
    refine ⟨fun _ => S8.out, ?_⟩
    simp only [Act.put, List.setIfInBounds_toArray]
    refine wpAnyZ_all (rs := [13]) (by kernel_rfl) (by simp) ?_
    intro i hi
    simp only [List.mem_cons, List.not_mem_nil, or_false] at hi
    subst hi
    refine wpOp_of rfl rfl (wpPure30 (exField rfl (fieldLg1 lb _)) ?_)
    refine ⟨fun _ => S8.out, ?_⟩
    simp only [Act.put]
    refine wpAnyZ_all (rs := [14]) (by kernel_rfl) (by simp) ?_
    intro i hi
    simp only [List.mem_cons, List.not_mem_nil, or_false] at hi
    subst hi
    refine wpOp_of rfl rfl (wpStored1 rfl rfl (storeLgE lb 1 w8 A1 (ends.length + 1) c1 (K8.out.cell 1) (K8.out.fr 1)) ?_)
    refine ⟨noZ (by kernel_rfl), ?_⟩
    refine wpAnyZ_done (by kernel_rfl) ?_ _
    go_wp2
    go_ret
    have kp9 : Kept (fun k => k = lb) w8 (w8.setCell ⟨lb, 1, none⟩ (.slice A1 (ends.length + 1) c1)) := (Kept.refl (fun k => k = lb) w8).setCell (p := ⟨lb, 1, none⟩) (.inl rfl) _
    refine ⟨fun _ => ?_, (fun h => by rw [HPB.out] at h; cases h)⟩
    rw [← hP.out, ← hQ.out, ← hL.out, hfl.out, ← hLl.out]
    refine ⟨rfl, ?_, fun q => (F q ∨ D' q) ∨ (Value.slice A1 (ends.length + 1) c1).ownBlock = some q, ⟨⟨D', _, (D7.out.stay (kp8.stay fun k _ e1 e2 => (K4.out k e1).2.2 e2)).stay (kp9.stay fun k _ e1 e2 => (K4.out k e1).2.1 e2), ?_, ?_, fun k e => ⟨.inl (.inr e), (K4.out k e).2.1, fun e2 => ?_⟩, fun k e => .inr e⟩, .inl (.inl HL5.out.fl), fun q e => ?_⟩, fun q e => ?_⟩
    · exact (((Kept.of_below (F := F) B5.out).trans K1.out fun x e => .inl e).then b7.out).trans (kp8.mono fun k e => HV5.out k e) (fun x e => .inl e) |>.trans kp9 fun x e => .inl (e ▸ HL5.out.fl)
    · have := K8.out.set_ 1 (.slice A1 (ends.length + 1) c1)
      simpa using this
    · rw [List.length_append, encI_append]
      exact own_keepF own1 fun k e => kp9.block k (own1.lt k e).2 fun e2 => own_ne_blk own1 K8.out (by decide) e e2
    · rcases hv1 k e2 with e3 | e3
      · exact (K4.out k e).2.2 e3
      · have := HD6.out.lt k e
        have := b7.out.size
        omega
    · have z8 := kp8.size
      have z9 := kp9.size
      have z7 := b7.out.size
      rcases e with e | e
      · have := K5.out q e
        omega
      · have := (own1.lt q e).2
        omega
    · have z7 := b7.out.size
      have z6 := K1.out.size
      have z5 := B5.out.size
      rcases e with e | e
      · rcases K6.out q e with e | e
        · exact .inl e
        · exact .inr (by omega)
      · rcases hv1 q e with e | e
        · exact .inl (HV5.out q e)
        · exact .inr (by omega)
end Go.Proofs.YtdafiipedlglpaaDoor

/- A log is opened: walked. -/
namespace Go.Proofs.YtdafiipedlglpaaDoor
open Go.RowKit

/-- a row of patches of one's own, each with lists of its own: all in blocks of G -/
def OwnG (G : Nat → Prop) (w : World) (s : Value) (l : List PatV) : Prop := ∃ rows D, w.ownsRow 0 28 4 s l.length rows.flatten ∧ RowsIn w D rows l ∧ (∀ k, D k → G k ∧ k < w.heap.size ∧ s.ownBlock ≠ some k) ∧ ∀ k, s.ownBlock = some k → G k
theorem OwnG.stay {G : Nat → Prop} {w w' : World} {s : Value} {l : List PatV} (h : OwnG G w s l) (hk : Stay G w w') : OwnG G w' s l := by
  obtain ⟨rows, D, h1, h2, h3, h4⟩ := h
  exact ⟨rows, D, own_keepF h1 (fun k e => hk.2 k (h1.lt k e).2 (h4 k e)), h2.stay (hk.mono fun k e => (h3 k e).1), fun k e => ⟨(h3 k e).1, Nat.lt_of_lt_of_le (h3 k e).2.1 hk.1, (h3 k e).2.2⟩, h4⟩
theorem OwnG.ext {G : Nat → Prop} {w w' : World} {s : Value} {l : List PatV} (h : OwnG G w s l) (hb : Below w.heap.size w w') : OwnG G w' s l := h.stay (Stay.of_below hb)
theorem OwnG.slice {G : Nat → Prop} {w : World} {s : Value} {l : List PatV} (h : OwnG G w s l) : ∃ A c, s = .slice A l.length c ∧ l.length ≤ c := by
  obtain ⟨rows, D, h1, _⟩ := h
  obtain ⟨A, c, rfl, hc, _⟩ := Sl.of_own h1
  exact ⟨A, c, rfl, hc⟩
theorem OwnG.pats {G : Nat → Prop} {w : World} {A : Option Addr} {c : Nat} {l : List PatV} (h : OwnG G w (.slice A l.length c) l) : PatsAt w A l.length l := by
  obtain ⟨rows, D, h1, h2, h3, h4⟩ := h
  obtain ⟨A', c', e, _, hs⟩ := Sl.of_own h1
  injection e with e1 _ _
  subst e1
  exact ⟨rfl, rows, h2.rowsP, hs⟩
def OpnRet (w : World) (F : Nat → Prop) (d : Nat) (l : List UInt8) (e : Ending) (w' : World) : Prop :=
  ∃ (lb : Nat) (v : Value) (E G : Nat → Prop), e = .returned (.tuple #[.pointer (some ⟨lb, 0, none⟩), v]) ∧ Kept F w w' ∧ LogAt w' E lb d (l.take (sumLen (readL l))) (endsL (readL l)) (sumLen (readL l)) ∧ OwnG G w' v ((readL l).map (·.1)) ∧
    (∀ k, E k → F k ∨ w.heap.size ≤ k) ∧ ∀ k, G k → w.heap.size ≤ k ∧ k < w'.heap.size ∧ ¬ E k
theorem buildLog (w : World) (p : Option Addr) : (Instr.build 49 #[(0, .pointer p)]).run Tryd.prog w = .ok (.agg #[.pointer p, .slice none 0 0]) w := by kernel_rfl
set_option maxRecDepth 100000 in
set_option maxHeartbeats 8000000 in
theorem logOpen_any {w : World} {F : Nat → Prop} {d s : Nat} {l : List UInt8} (h : DiskAt w F d l s) (hl : l.length ≤ 900000) (hFo : FourOk w) :
    Calls Tryd.prog 7 #[.pointer (some ⟨d, 0, none⟩)] w (OpnRet w F d l) := by
  have K1 : Hid (Blk (w.alloc (.cells #[.pointer (some ⟨d, 0, none⟩), .slice none 0 0] 49)) w.heap.size 49 #[.pointer (some ⟨d, 0, none⟩), .slice none 0 0]) := Blk.new _ _ _
  have B1 : Hid (Below w.heap.size w (w.alloc (.cells #[.pointer (some ⟨d, 0, none⟩), .slice none 0 0] 49))) := below_new _ _
  have HB := Lib.hid (diskBytes_any (h.ext B1.out) (by omega))
  have H := Lib.hid h
  have FO := Lib.hid hFo
  clear h hFo
  go_enter Tryd.func7, Tryd.ntmps7
  go_wp2_with (refine wpList_built (buildLog _ _) (by rfl) ?_)
  refine HB.out.mono ?_
  rintro e w2 ⟨v2, rfl, o2, b2⟩
  obtain ⟨lb, hlb⟩ : ∃ lb, lb = w.heap.size := ⟨_, rfl⟩
  obtain ⟨A5, c5, rfl, _, _⟩ := Sl.of_own o2
  have K2 := Lib.hid (K1.out.ext b2)
  have B2 := Lib.hid (B1.out.trans (b2.mono B1.out.size))
  have O2 := Lib.hid (own_mono' o2 B1.out.size)
  rw [← hlb] at K2 ⊢
  replace hlb := Lib.hid hlb
  obtain ⟨nl, hnl⟩ : ∃ nl, nl = l.length := ⟨_, rfl⟩
  rw [← hnl] at O2 hl ⊢
  replace hnl := Lib.hid hnl
  obtain ⟨R, hR⟩ : ∃ R, R = readL l := ⟨_, rfl⟩
  replace hR := Lib.hid hR
  clear o2 b2 HB K1 B1
  go_upto_block 0 with fail
  go_cut [6, 7, 8, 9, 10, 11] (fun av ov _ _ _ _ wx => ∃ (rows : List (List Value)) (D : Nat → Prop) (A7 : Option Addr) (c7 : Nat) (Ae : Option Addr) (ce : Nat), av = .int .i64 ((sumLen R : Nat) : Int) ∧ ov = .slice A7 R.length c7 ∧ sumLen R ≤ nl ∧ Hid (wx.ownsRow w.heap.size 28 4 (.slice A7 R.length c7) R.length rows.flatten) ∧ Hid (RowsIn wx D rows (R.map (·.1))) ∧ Hid (Blk wx lb 49 #[.pointer (some ⟨d, 0, none⟩), .slice Ae R.length ce]) ∧ Hid (wx.ownsRow w.heap.size 3 1 (.slice Ae R.length ce) R.length (encI (endsL R))) ∧ Hid (∀ k, D k → w.heap.size ≤ k ∧ k < wx.heap.size ∧ (Value.slice A7 R.length c7).ownBlock ≠ some k ∧ k ≠ lb ∧ (Value.slice Ae R.length ce).ownBlock ≠ some k) ∧ Hid (Below w.heap.size w wx))
  case first =>
    go_wp2_with fail
    go_loopw [6, 7] (fun av ov wr => ∃ (qs : List (PatV × Nat)) (a n7 : Nat) (rows : List (List Value)) (D : Nat → Prop) (A7 : Option Addr) (c7 : Nat) (Ae : Option Addr) (ce : Nat), av = .int .i64 (a : Int) ∧ ov = .slice A7 n7 c7 ∧ Hid (n7 = qs.length) ∧ Hid (readL l = qs ++ readL (l.drop a)) ∧ Hid (a = sumLen qs) ∧ a ≤ nl ∧ n7 ≤ a ∧ Hid (wr.ownsRow w.heap.size 28 4 (.slice A7 n7 c7) n7 rows.flatten) ∧ Hid (RowsIn wr D rows (qs.map (·.1))) ∧ Hid (Blk wr lb 49 #[.pointer (some ⟨d, 0, none⟩), .slice Ae n7 ce]) ∧ Hid (wr.ownsRow w.heap.size 3 1 (.slice Ae n7 ce) n7 (encI (endsL qs))) ∧ Hid (∀ k, D k → w.heap.size ≤ k ∧ k < wr.heap.size ∧ (Value.slice A7 n7 c7).ownBlock ≠ some k ∧ k ≠ lb ∧ (Value.slice Ae n7 ce).ownBlock ≠ some k) ∧ Hid (wr.ownsRow w.heap.size 5 1 (.slice A5 nl c5) nl (encB l)) ∧ Hid (Below w.heap.size w wr)) (fun av _ _ => nl - (intOf av).toNat)
    case atStart => exact ⟨[], 0, 0, [], fun _ => False, none, 0, none, 0, rfl, rfl, rfl, rfl, rfl, Nat.zero_le _, Nat.le_refl _, World.ownsRow_nil _ _ _ _, RowsIn.nil _ _, K2.out, World.ownsRow_nil _ _ _ _, fun _ h => h.elim, O2.out, B2.out⟩
    case round =>
      clear K2 O2 B2
      obtain ⟨qs, a, n7, rows, D, A7, c7, Ae, ce, rfl, rfl, hn7, HRd, HA, hal, hna, O7, RI, KL, OE, HDD, OB, BW⟩ := hrel
      have BA := (own_bytes OB.out hnl.out.symm)
      obtain ⟨_, _, eBA, BA⟩ := BA
      injection eBA with eB1 eB2 eB3
      subst eB1 eB3
      have LO := Lib.hid (BA.low (k := a) hal)
      have CL := Lib.hid (fun u => run_slice_low byteSl (A := A5) (n := nl) (c := c5) (k := a) hal u)
      generalize cutAddr A5 c5 a 1 = Aa at *
      have HN := Lib.hid (next06_any (l.drop a) wr Aa (nl - a) (c5 - a) LO.out (by omega) (four_ext FO.out BW.out))
      obtain ⟨x, n, e1, hx⟩ : ∃ x n e1, nextFr (l.drop a) = (x, n, e1) := ⟨_, _, _, rfl⟩
      rw [show NextRet wr (l.drop a) = fun e w' => ∃ v, e = .returned (.tuple #[v, .int .i64 ((n : Nat) : Int), .int .i64 ((e1 : Nat) : Int)]) ∧ w'.ownsRow wr.heap.size 5 1 v x.length (encB x) ∧ Below wr.heap.size wr w' from by unfold NextRet; rw [hx]] at HN
      clear BA LO
      obtain ⟨na, hnae⟩ : ∃ na, na = nl - a := ⟨_, rfl⟩
      rw [← hnae] at CL HN
      replace hnae := Lib.hid hnae
      generalize c5 - a = ca at *
      by_cases he1 : e1 = 0
      · subst he1
        obtain ⟨hb, hnf, hxl, hnle⟩ := next_told hx
        have hna2 : n ≤ na := by rw [hnae.out]; rw [List.length_drop] at hnle; have := hnl.out; omega
        obtain ⟨p, er, hp⟩ : ∃ p er, decP x = (p, er) := ⟨_, _, rfl⟩
        have hn0 : 0 < n := by rw [hnf, frameB_len]; omega
        replace hb := Lib.hid hb
        replace hnf := Lib.hid hnf
        go_wp2_with (refine wpList_slB rfl rfl rfl rfl (CL.out _) ?_)
        refine HN.out.mono ?_
        rintro e w3 ⟨v3, rfl, o3, b3⟩
        obtain ⟨nx, hnx⟩ : ∃ nx, nx = x.length := ⟨_, rfl⟩
        rw [← hnx] at o3
        obtain ⟨A3, c3, rfl, ba3⟩ := own_bytes o3 hnx.symm
        have HDC := Lib.hid (decode19_far x w3 A3 nx c3 ba3)
        rw [hp] at HDC
        have O73 := Lib.hid (own_ext O7.out b3)
        have RI3 := Lib.hid (RI.out.stay (Stay.of_below b3))
        have KL3 := Lib.hid (KL.out.ext b3)
        have OE3 := Lib.hid (own_ext OE.out b3)
        have OB3 := Lib.hid (own_ext OB.out b3)
        have BW3 := Lib.hid (BW.out.trans (b3.mono BW.out.size))
        have HD3 : Hid (∀ k, D k → w.heap.size ≤ k ∧ k < w3.heap.size ∧ (Value.slice A7 n7 c7).ownBlock ≠ some k ∧ k ≠ lb ∧ (Value.slice Ae n7 ce).ownBlock ≠ some k) := fun k e => ⟨(HDD.out k e).1, Nat.lt_of_lt_of_le (HDD.out k e).2.1 b3.size, (HDD.out k e).2.2⟩
        clear o3 ba3 b3 HN O7 RI KL OE OB BW HDD CL
        replace hnx := Lib.hid hnx
        go_wp2_with fail
        refine HDC.out.mono ?_
        rintro e w6 ⟨cs, rfl, pa, b6⟩
        have pa2 := pa.lt
        obtain ⟨⟨A1, c1, A2, c2, rfl, _⟩, _, _⟩ := pa
        have O76 := Lib.hid (own_ext O73.out b6)
        have RI6 := Lib.hid (RI3.out.stay (Stay.of_below b6))
        have KL6 := Lib.hid (KL3.out.ext b6)
        have OE6 := Lib.hid (own_ext OE3.out b6)
        have OB6 := Lib.hid (own_ext OB3.out b6)
        have BW6 := Lib.hid (BW3.out.trans (b6.mono BW3.out.size))
        have HD6 : Hid (∀ k, D k → w.heap.size ≤ k ∧ k < w6.heap.size ∧ (Value.slice A7 n7 c7).ownBlock ≠ some k ∧ k ≠ lb ∧ (Value.slice Ae n7 ce).ownBlock ≠ some k) := fun k e => ⟨(HD3.out k e).1, Nat.lt_of_lt_of_le (HD3.out k e).2.1 b6.size, (HD3.out k e).2.2⟩
        have hsz : Hid (w3.heap.size ≤ w6.heap.size) := b6.size
        have h73 : Hid (∀ k, (Value.slice A7 n7 c7).ownBlock = some k → k < w3.heap.size) := fun k e => (O73.out.lt k e).2
        have hE3 : Hid (∀ k, (Value.slice Ae n7 ce).ownBlock = some k → k < w3.heap.size) := fun k e => (OE3.out.lt k e).2
        have hL3 : Hid (lb < w3.heap.size) := KL3.out.lt
        have hB3 : Hid (w.heap.size ≤ w3.heap.size) := BW3.out.size
        have PA := Lib.hid pa2
        have hcs := Lib.hid pa2.len4
        clear pa2 b6 HDC O73 RI3 KL3 OE3 OB3 BW3 HD3
        have KZ : Hid (Blk (w6.alloc (.cells #[.int .u8 0, .int .u16 0, .slice none 0 0, .slice none 0 0] 28)) w6.heap.size 28 #[.int .u8 0, .int .u16 0, .slice none 0 0, .slice none 0 0]) := Blk.new _ _ _
        obtain ⟨CS, hCS⟩ : ∃ CS, CS = patC p.1 A1 p.2.1.length c1 A2 p.2.2.length c2 := ⟨_, rfl⟩
        rw [← hCS] at PA hcs ⊢
        have HI : Hid ((Tryd.prog.info? 28).map (·.size) = some CS.toArray.size) := by rw [Hid, hCS]; exact infoPat
        have HO : Hid (CS.toArray.all (·.oneCell') = true) := by rw [Hid, hCS]; exact patC_one
        have KQ : Hid (Blk ((w6.alloc (.cells #[.int .u8 0, .int .u16 0, .slice none 0 0, .slice none 0 0] 28)).setRow w6.heap.size CS.toArray) w6.heap.size 28 CS.toArray) := KZ.out.row _
        have BN : Hid (Below w6.heap.size w6 ((w6.alloc (.cells #[.int .u8 0, .int .u16 0, .slice none 0 0, .slice none 0 0] 28)).setRow w6.heap.size CS.toArray)) := below_setRow (below_new w6 _) (Nat.le_refl _) _
        clear hCS
        go_upto_region 8 with (first
          | (refine wpList_alloced (allocPat _) ?_)
          | (refine wpList_store_row rfl 28 _ _ (by rfl) w6.heap.size CS.toArray (by rfl) (by rfl) _ _ KZ.out HI.out (by simp only [List.size_toArray, hcs.out]; rfl) HO.out ?_))
        generalize ((w6.alloc (.cells #[.int .u8 0, .int .u16 0, .slice none 0 0, .slice none 0 0] 28)).setRow w6.heap.size CS.toArray) = w7 at *
        have O7 := Lib.hid (own_ext O76.out BN.out)
        have RI := Lib.hid (RI6.out.stay (Stay.of_below BN.out))
        have KL := Lib.hid (KL6.out.ext BN.out)
        have OE := Lib.hid (own_ext OE6.out BN.out)
        have OB := Lib.hid (own_ext OB6.out BN.out)
        have BW := Lib.hid (BW6.out.trans (BN.out.mono BW6.out.size))
        have HDD : Hid (∀ k, D k → w.heap.size ≤ k ∧ k < w7.heap.size ∧ (Value.slice A7 n7 c7).ownBlock ≠ some k ∧ k ≠ lb ∧ (Value.slice Ae n7 ce).ownBlock ≠ some k) := fun k e => ⟨(HD6.out k e).1, Nat.lt_of_lt_of_le (HD6.out k e).2.1 BN.out.size, (HD6.out k e).2.2⟩
        have PN : Hid (PatIn w7 (fun k => w3.heap.size ≤ k ∧ k < w7.heap.size) CS p) := (PA.out.ext BN.out).mono fun k h => ⟨h.1, Nat.lt_of_lt_of_le h.2 BN.out.size⟩
        clear BN KZ PA O76 RI6 KL6 OE6 OB6 BW6 HD6
        generalize w6.heap.size = gq at *
        by_cases he : er = 0
        · subst he
          have hgo := readL_go hx hp
          have hdd : (l.drop a).drop n = l.drop (a + n) := by rw [List.drop_drop]
          rw [hdd] at hgo
          have HRd2 : Hid (readL l = (qs ++ [(p, n)]) ++ readL (l.drop (a + n))) := by rw [Hid, HRd.out, hgo, List.append_assoc]; rfl
          have HA2 : Hid (a + n = sumLen (qs ++ [(p, n)])) := by rw [Hid, sumLen_snoc, HA.out]
          have hal2 : a + n ≤ nl := by have := hnae.out; omega
          have haw : IntKind.i64.wrap ((a : Int) + (n : Int)) = ((a + n : Nat) : Int) := by rw [IntWalk.i64_in _ (by omega)]; omega
          have hEs : Hid (encI (endsL qs) ++ [.int .i64 ((a + n : Nat) : Int)] = encI (endsL (qs ++ [(p, n)]))) := by
            rw [Hid, endsL_snoc, encI_append, ← HA.out]; rfl
          have hn72 : Hid (n7 + 1 = (qs ++ [(p, n)]).length) := by rw [Hid, List.length_append, hn7.out]; rfl
          clear hgo hdd hx hp
          obtain ⟨a2, ha2⟩ : ∃ a2, a2 = a + n := ⟨_, rfl⟩
          rw [← ha2] at HRd2 HA2 hal2 haw hEs
          have hna3 : n7 + 1 ≤ a2 := by omega
          have hmea : a < a2 := by omega
          replace ha2 := Lib.hid ha2
          go_upto_region 11 with (first
            | (refine wpList_load_row rfl 28 _ (by rfl) gq (by rfl) _ _ _ _ KQ.out underPat rfl HI.out ?_)
            | (refine wpList_lit1 patSl hcs.out (by omega) (by rfl) ?_)
            | (at_builtin; refine wpList_pushF patSl O7.out CS hcs.out PN.out.one BW.out.size (by omega) (by unfold maxLen; omega) (by rfl) (by rfl) (by rfl) ?_; intro v8 w8 own8 kp8 new8))
          obtain ⟨A8, c8, rfl, _, _⟩ := Sl.of_own own8
          clear haw
          have hdisjE : ∀ k, (Value.slice A7 n7 c7).ownBlock = some k → (Value.slice Ae n7 ce).ownBlock = some k → False := fun k e e2 => by
            rcases own_ne O7.out OE.out (by decide) with e3 | e3
            · rw [e] at e3; cases e3
            · exact e3 (e.trans e2.symm)
          have hdisjB : ∀ k, (Value.slice A7 n7 c7).ownBlock = some k → (Value.slice A5 nl c5).ownBlock = some k → False := fun k e e2 => by
            rcases own_ne O7.out OB.out (by decide) with e3 | e3
            · rw [e] at e3; cases e3
            · exact e3 (e.trans e2.symm)
          have KL8 := Lib.hid (KL.out.keep (kp8.block lb KL.out.lt fun e => own_ne_blk O7.out KL.out (by decide) e rfl))
          have OE8 := Lib.hid (own_keepF OE.out fun k e => kp8.block k (OE.out.lt k e).2 fun e2 => hdisjE k e2 e)
          have OB8 := Lib.hid (own_keepF OB.out fun k e => kp8.block k (OB.out.lt k e).2 fun e2 => hdisjB k e2 e)
          have st8 : Stay (fun k => D k ∨ w3.heap.size ≤ k ∧ k < w7.heap.size) w7 w8 := kp8.stay fun k _ hd e => hd.elim (fun hd => (HDD.out k hd).2.2.1 e) (fun hd => by have := h73.out k e; omega)
          have RI8 := Lib.hid (((RI.out.mono fun k hd => .inl hd).snoc (PN.out.mono fun k hd => .inr hd)).stay st8)
          have BW8 := Lib.hid (BW.out.trans (kp8.below (B := w.heap.size) (fun k e => (O7.out.lt k e).1) BW.out.size))
          have own8 := Lib.hid own8
          have HD8 : Hid (∀ k, (D k ∨ w3.heap.size ≤ k ∧ k < w7.heap.size) → w.heap.size ≤ k ∧ k < w8.heap.size ∧ (Value.slice A8 (n7 + 1) c8).ownBlock ≠ some k ∧ k ≠ lb ∧ (Value.slice Ae n7 ce).ownBlock ≠ some k) := fun k hd => by
            have z8 := kp8.size
            have hlt : w.heap.size ≤ k ∧ k < w7.heap.size := hd.elim (fun hd => ⟨(HDD.out k hd).1, (HDD.out k hd).2.1⟩) (fun hd => by have := hB3.out; omega)
            refine ⟨hlt.1, by omega, fun e => ?_, ?_, ?_⟩
            · rcases new8 k e with e | e
              · exact hd.elim (fun hd => (HDD.out k hd).2.2.1 e) (fun hd => by have := h73.out k e; omega)
              · omega
            · exact hd.elim (fun hd => (HDD.out k hd).2.2.2.1) (fun hd => by have := hL3.out; omega)
            · exact hd.elim (fun hd => (HDD.out k hd).2.2.2.2) (fun hd e => by have := hE3.out k e; omega)
          clear kp8 new8 st8 hdisjE hdisjB KL OE OB RI PN BW HDD O7 KQ
          have y1 : w8.cell? ⟨lb, 1, none⟩ = some (.slice Ae n7 ce) := KL8.out.cell 1
          go_wp2_with (at_builtin; refine wpList_pushF intSl30 OE8.out [.int .i64 (a2 : Int)] rfl (by simp [Value.oneCell']) BW8.out.size (by omega) (by unfold maxLen; omega) (by rfl) (by rfl) (by rfl) ?_; intro v9 w9 own9 kp9 hv9; obtain ⟨A9, c9, rfl, _, _⟩ := Sl.of_own own9; have K9 : Hid (Blk w9 lb 49 #[.pointer (some ⟨d, 0, none⟩), .slice Ae n7 ce]) := KL8.out.keep (kp9.block lb KL8.out.lt fun e => own_ne_blk OE8.out KL8.out (by decide) e rfl); have y9 : w9.cell? ⟨lb, 1, none⟩ = some (.slice Ae n7 ce) := K9.out.cell 1; have f9 : w9.frozen? ⟨lb, 1, none⟩ = false := K9.out.fr 1)
          have kpl : Kept (fun k => k = lb) w9 (w9.setCell ⟨lb, 1, none⟩ (.slice A9 (n7 + 1) c9)) := (Kept.refl (fun k => k = lb) w9).setCell (p := ⟨lb, 1, none⟩) (.inl rfl) _
          have dE8 : ∀ k, (Value.slice Ae n7 ce).ownBlock = some k → (Value.slice A8 (n7 + 1) c8).ownBlock = some k → False := fun k e e2 => by
            rcases own_ne OE8.out own8.out (by decide) with e3 | e3
            · rw [e] at e3; cases e3
            · exact e3 (e.trans e2.symm)
          have dEB : ∀ k, (Value.slice Ae n7 ce).ownBlock = some k → (Value.slice A5 nl c5).ownBlock = some k → False := fun k e e2 => by
            rcases own_ne OE8.out OB8.out (by decide) with e3 | e3
            · rw [e] at e3; cases e3
            · exact e3 (e.trans e2.symm)
          have O79 := own_keepF own8.out fun k e => kp9.block k (own8.out.lt k e).2 fun e2 => dE8 k e2 e
          have O710 := Lib.hid (own_keepF O79 fun k e => kpl.block k (O79.lt k e).2 fun e2 => own_ne_blk O79 K9.out (by decide) e e2)
          have OB9 := own_keepF OB8.out fun k e => kp9.block k (OB8.out.lt k e).2 fun e2 => dEB k e2 e
          have OB10 := Lib.hid (own_keepF OB9 fun k e => kpl.block k (OB9.lt k e).2 fun e2 => own_ne_blk OB9 K9.out (by decide) e e2)
          have RI10 := Lib.hid ((RI8.out.stay (kp9.stay fun k _ hd e => (HD8.out k hd).2.2.2.2 e)).stay (kpl.stay fun k _ hd e => (HD8.out k hd).2.2.2.1 e))
          have KL10 : Hid (Blk (w9.setCell ⟨lb, 1, none⟩ (.slice A9 (n7 + 1) c9)) lb 49 #[.pointer (some ⟨d, 0, none⟩), .slice A9 (n7 + 1) c9]) := K9.out.set_ 1 (.slice A9 (n7 + 1) c9)
          have OE10 := Lib.hid (own_keepF own9 fun k e => kpl.block k (own9.lt k e).2 fun e2 => own_ne_blk own9 K9.out (by decide) e e2)
          have BW9 := BW8.out.trans (kp9.below (B := w.heap.size) (fun k e => (OE8.out.lt k e).1) BW8.out.size)
          have BW10 := Lib.hid (BW9.trans (kpl.below (B := w.heap.size) (fun k e => by rw [e]; exact Nat.le_of_eq hlb.out.symm) BW9.size))
          have HD10 : Hid (∀ k, (D k ∨ w3.heap.size ≤ k ∧ k < w7.heap.size) → w.heap.size ≤ k ∧ k < (w9.setCell ⟨lb, 1, none⟩ (.slice A9 (n7 + 1) c9)).heap.size ∧ (Value.slice A8 (n7 + 1) c8).ownBlock ≠ some k ∧ k ≠ lb ∧ (Value.slice A9 (n7 + 1) c9).ownBlock ≠ some k) := fun k hd => by
            obtain ⟨g1, g2, g3, g4, g5⟩ := HD8.out k hd
            have z9 := kp9.size
            have z10 := kpl.size
            refine ⟨g1, by omega, g3, g4, fun e => ?_⟩
            rcases hv9 k e with e | e
            · exact g5 e
            · omega
          clear O79 OB9 BW9 kp9 kpl dE8 dEB hv9 own9 K9 y9 f9 HD8 RI8 KL8 OE8 OB8 BW8 own8 y1
          rw [hEs.out] at OE10
          go_roundw
          case rel => exact ⟨qs ++ [(p, n)], a2, n7 + 1, rows ++ [CS], _, A8, c8, A9, c9, by go_num, by go_num, hn72.out, HRd2.out, HA2.out, hal2, hna3, by rw [Hid, List.flatten_append]; simpa using O710.out, by rw [Hid, List.map_append]; exact RI10.out, KL10.out, OE10.out, HD10.out, OB10.out, BW10.out⟩
          case measure => simp [intOf]; omega
        · have z2 : ((er : Int) != 0) = true := by rw [bne_iff_ne]; omega
          have hst : readL (l.drop a) = [] := readL_stop (.inr (by rw [hx, hp]; exact he))
          have hqR : Hid (qs = R) := by rw [Hid, hR.out, HRd.out, hst, List.append_nil]
          clear hst hx hp
          replace he := Lib.hid he
          go_wp2_with fail
          go_meet
          case rel =>
            have hq := hqR.out
            subst hq
            refine ⟨rows, D, A7, c7, Ae, ce, by rw [HA.out], by rw [hn7.out], by rw [← HA.out]; exact hal, ?_⟩
            rw [← hn7.out]
            exact ⟨O7.out, RI.out, KL.out, OE.out, HDD.out, BW.out⟩
      · have z1 : ((e1 : Int) != 0) = true := by rw [bne_iff_ne]; omega
        have hst : readL (l.drop a) = [] := readL_stop (.inl (by rw [hx]; exact he1))
        have hqR : Hid (qs = R) := by rw [Hid, hR.out, HRd.out, hst, List.append_nil]
        clear hst hx
        replace he1 := Lib.hid he1
        go_wp2_with (refine wpList_slB rfl rfl rfl rfl (CL.out _) ?_)
        refine HN.out.mono ?_
        rintro e w3 ⟨v3, rfl, o3, b3⟩
        have O73 := Lib.hid (own_ext O7.out b3)
        have RI3 := Lib.hid (RI.out.stay (Stay.of_below b3))
        have KL3 := Lib.hid (KL.out.ext b3)
        have OE3 := Lib.hid (own_ext OE.out b3)
        have BW3 := Lib.hid (BW.out.trans (b3.mono BW.out.size))
        have HD3 : Hid (∀ k, D k → w.heap.size ≤ k ∧ k < w3.heap.size ∧ (Value.slice A7 n7 c7).ownBlock ≠ some k ∧ k ≠ lb ∧ (Value.slice Ae n7 ce).ownBlock ≠ some k) := fun k e => ⟨(HDD.out k e).1, Nat.lt_of_lt_of_le (HDD.out k e).2.1 b3.size, (HDD.out k e).2.2⟩
        clear o3 b3 HN O7 RI KL OE OB BW HDD CL
        go_wp2_with fail
        go_meet
        case rel =>
          have hq := hqR.out
          subst hq
          refine ⟨rows, D, A7, c7, Ae, ce, by rw [HA.out], by rw [hn7.out], by rw [← HA.out]; exact hal, ?_⟩
          rw [← hn7.out]
          exact ⟨O73.out, RI3.out, KL3.out, OE3.out, HD3.out, BW3.out⟩
  case rest =>
    clear K2 O2 B2
    obtain ⟨rows, D, A7, c7, Ae, ce, rfl, rfl, hsl, O7, RI, KL, OE, HDD, BW⟩ := hcut
    have HD := H.out.ext BW.out
    have HC := Lib.hid (diskCut_any HD (sumLen R) (by rw [← hnl.out]; exact hsl))
    have hlt : Hid (∀ k, F k → k < w.heap.size) := H.out.lt
    clear HD
    obtain ⟨a, ha⟩ : ∃ a, a = sumLen R := ⟨_, rfl⟩
    rw [← ha] at HC hsl ⊢
    obtain ⟨nR, hnR⟩ : ∃ nR, nR = R.length := ⟨_, rfl⟩
    rw [← hnR] at O7 KL OE HDD ⊢
    replace ha := Lib.hid ha
    replace hnR := Lib.hid hnR
    go_wp2_with fail
    refine HC.out.mono ?_
    rintro e w6 ⟨rfl, kp, F', hd, hF'⟩
    go_wp2_with fail
    refine bodyPost_ret (v := .tuple #[.pointer (some ⟨lb, 0, none⟩), .slice A7 nR c7]) ?_ rfl ?_
    · simp [results, Tryd.results7, go_sem]
    · have hlbF : ∀ k, F k → w.heap.size ≤ k → False := fun k e e2 => by have := hlt.out k e; omega
      have hlb2 : w.heap.size ≤ lb := Nat.le_of_eq hlb.out.symm
      have hF2 : ∀ k, F' k → F k ∨ wc.heap.size ≤ k := hF'
      refine ⟨lb, _, fun k => F' k ∨ (k = lb ∨ (Value.slice Ae nR ce).ownBlock = some k), fun k => D k ∨ (Value.slice A7 nR c7).ownBlock = some k, rfl, (Kept.of_below BW.out).trans kp fun x e => .inl e, ⟨⟨F', .slice Ae nR ce, ?_, ?_, ?_, ?_, fun k e => .inr (.inr e)⟩, .inr (.inl rfl), ?_⟩, ⟨rows, D, ?_, ?_, ?_, fun k e => .inr e⟩, ?_, ?_⟩
      · rw [← hR.out, ← ha.out]; exact hd
      · exact KL.out.keep (kp.block lb KL.out.lt fun e => hlbF _ e hlb2)
      · rw [← hR.out, endsL_len, ← hnR.out]
        exact own_keepF (own_rebase OE.out fun k e => Nat.zero_le _) (fun k e => kp.block k (OE.out.lt k e).2 fun e2 => hlbF _ e2 (OE.out.lt k e).1)
      · intro k e
        refine ⟨.inl e, ?_, ?_⟩
        · rintro rfl
          rcases hF2 _ e with e | e
          · exact hlbF _ e hlb2
          · have := KL.out.lt; omega
        · intro e2
          rcases hF2 _ e with e | e
          · exact hlbF _ e (OE.out.lt k e2).1
          · have := (OE.out.lt k e2).2; omega
      · intro k e
        rcases e with e | e | e
        · exact hd.lt k e
        · rw [e]; exact Nat.lt_of_lt_of_le KL.out.lt kp.size
        · exact Nat.lt_of_lt_of_le (OE.out.lt k e).2 kp.size
      · rw [← hR.out, List.length_map, ← hnR.out]
        exact own_keepF (own_rebase O7.out fun k e => Nat.zero_le _) (fun k e => kp.block k (O7.out.lt k e).2 fun e2 => hlbF _ e2 (O7.out.lt k e).1)
      · rw [← hR.out]
        exact RI.out.stay (kp.stay fun k _ e1 e2 => hlbF _ e2 (HDD.out k e1).1)
      · exact fun k e => ⟨.inl e, Nat.lt_of_lt_of_le (HDD.out k e).2.1 kp.size, (HDD.out k e).2.2.1⟩
      · intro k e
        rcases e with e | e | e
        · rcases hF2 _ e with e | e
          · exact .inl e
          · exact .inr (Nat.le_trans BW.out.size e)
        · exact .inr (by rw [e]; exact hlb2)
        · exact .inr (OE.out.lt k e).1
      · intro k e
        have hk : w.heap.size ≤ k ∧ k < wc.heap.size ∧ k ≠ lb ∧ (Value.slice Ae nR ce).ownBlock ≠ some k := by
          rcases e with e | e
          · have := HDD.out k e
            exact ⟨this.1, this.2.1, this.2.2.2.1, this.2.2.2.2⟩
          · refine ⟨(O7.out.lt k e).1, (O7.out.lt k e).2, fun e2 => own_ne_blk O7.out KL.out (by decide) e e2, fun e2 => ?_⟩
            rcases own_ne O7.out OE.out (by decide) with e3 | e3
            · rw [e] at e3; cases e3
            · exact e3 (e.trans e2.symm)
        refine ⟨hk.1, Nat.lt_of_lt_of_le hk.2.1 kp.size, ?_⟩
        rintro (e | e | e)
        · rcases hF2 _ e with e | e
          · exact hlbF _ e hk.1
          · omega
        · exact hk.2.2.1 e
        · exact hk.2.2.2 e
end Go.Proofs.YtdafiipedlglpaaDoor
