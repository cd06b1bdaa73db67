/- Texts of general use, one behind another. -/
import Derived.Test.YtnhbbggpgieipaaGreatPoolf
import Derived.Test.YtnhbbggpgieipaaGreatGen
import Derived.Test.YtnhbbggpgieipaaGreatPoolq
import Derived.Test.YtnhbbggpgieipaaGreatPoolw
import Derived.Test.YtnhbbggpgieipaaGreatVrefs
import Derived.Test.YtnhbbggpgieipaaGreatIdxl
import Derived.Test.YtnhbbggpgieipaaGreatPoolx

/- The document's hint of patches: walked. -/
namespace Go.Proofs.YtnhbbggpgieipaaGreat
open Go.RowKit

theorem allB_len {xs : List Nat} (h : BlOk xs) : (allB xs).length = 256 := by
  obtain ⟨a, b, c, d, rfl⟩ := blOk_four h
  simp [allB, bl_len]
theorem allB_put {xs : List Nat} (h : BlOk xs) {q : Nat} (hq : q < 256) : allB (putBit xs q) = (allB xs).set q true := by
  have h2 := putBit_ok h q
  apply List.ext_getElem?
  intro r
  rcases Nat.lt_or_ge r 256 with hr | hr
  · rw [allB_get h2 hr, List.getElem?_set, bit_put h hq, allB_get h hr]
    by_cases e : q = r
    · subst e
      rw [if_pos rfl, if_pos (by rw [allB_len h]; exact hq)]
      simp
    · rw [if_neg e, decide_eq_false e, Bool.or_false]
  · rw [List.getElem?_eq_none (by rw [allB_len h2]; exact hr), List.getElem?_eq_none (by rw [List.length_set, allB_len h]; exact hr)]
/-- a quarter of the bits -/
theorem allB_cut {xs : List Nat} (h : BlOk xs) {k j : Nat} (hk : k < 4) (hj : j < 64) : (allB xs)[64 * k + j]? = (bl (xs.getD k 0).testBit)[j]? := by
  rw [allB_get h (by omega), bl_get _ hj]
  unfold bitAt
  rw [show (64 * k + j) / 64 = k by omega, show (64 * k + j) % 64 = j by omega]
theorem cut64 (b o n c k : Nat) (h : k < 4) (hc : 256 ≤ c) (w : World) :
    (Instr.sliceAt 157 (.slice (some ⟨b, o, none⟩) n c) (some (.int .i64 (64 * (k : Int)))) (some (.int .i64 (64 * (k : Int) + 64))) none).run Tryz.prog w = .ok (.slice (some ⟨b, o + 64 * k, none⟩) 64 (c - 64 * k)) w := by
  obtain ⟨i, z, hi, hz, hsz, hby, hzs⟩ := boolSl.hi
  have e1 : (64 * (k : Int)).toNat = 64 * k := by omega
  have e2 : (64 * (k : Int) + 64).toNat = 64 * k + 64 := by omega
  have n0 : c ≠ 64 * k := by omega
  simp [Instr.sliceAt, Instr.slice, run_underlying boolSl.ht, Instr.sliceBounds, Instr.sliceBound, asIntOf, sizeOf, typeInfo, hi, hsz]
  rw [if_pos ⟨by omega, by omega⟩, if_pos ⟨by omega, by omega⟩, e1, e2, if_neg n0, show 64 * k + 64 - 64 * k = 64 by omega]
  simp [Addr.add]
theorem wpList_sliced {P : Program} {ops : Array Oper} {rest : List Oper} {a : Act} {w w' : World} {Q : Exit → Act → World → Prop} {d : Option Tmp} {ty t : TypeId} {pos : String} {after : Array Edge} {x : Operand} {lo hi mx : Option Operand} {xv v : Value} {lv hv mv : Option Value} (hx : a.eval x = xv) (hl : lo.map a.eval = lv) (hh : hi.map a.eval = hv) (hm : mx.map a.eval = mv) (hr : (Instr.sliceAt t xv lv hv mv).run P w = .ok v w')
    (h : wpList P ops Q rest (a.put d v) w') : wpList P ops Q (⟨d, .slice t x lo hi mx, ty, pos, after, none⟩ :: rest) a w :=
  wpList_plain rfl fun _ hK => by
    unfold Oper.wp execOp
    simp only [hx, hl, hh, hm, Sem.run_bind, hr, Result.andThen_ok, Sem.run_pure]
    exact hK _ _ h
theorem sl_cut {w : World} {B b o k : Nat} {xs : List Nat} (h : BlOk xs) (hs : Sl w B 1 (some ⟨b, o, none⟩) 256 ((allB xs).map Value.bool)) (hk : k < 4) : Sl w B 1 (some ⟨b, o + 64 * k, none⟩) 64 ((bl (xs.getD k 0).testBit).map Value.bool) := by
  obtain ⟨h1, h2⟩ := hs
  obtain ⟨b', o', e, hb, hc⟩ := h2 (by omega)
  injection e with e
  injection e with e1 e2 _
  subst e1 e2
  refine ⟨by simp [bl_len], fun _ => ⟨b, o + 64 * k, rfl, hb, fun j hj => ?_⟩⟩
  rw [Nat.add_assoc, hc _ (by omega), List.getElem?_map, List.getElem?_map, allB_cut h hk (by omega)]
/-- the first k numbers of a hint -/
def pkB (xs : List Nat) (k : Nat) : List Nat := xs.take k ++ List.replicate (4 - k) 0
theorem pkB_set {xs : List Nat} (h : BlOk xs) {k : Nat} (hk : k < 4) : (pkB xs k).set k (xs.getD k 0) = pkB xs (k + 1) := by
  obtain ⟨a, b, c, d, rfl⟩ := blOk_four h
  match k, hk with
  | 0, _ => rfl
  | 1, _ => rfl
  | 2, _ => rfl
  | 3, _ => rfl
theorem pkB_len {xs : List Nat} (h : BlOk xs) {k : Nat} (hk : k ≤ 4) : (pkB xs k).length = 4 := by unfold pkB; rw [List.length_append, List.length_take, h.1, List.length_replicate]; omega
theorem encBl_lenN (xs : List Nat) : (encBl xs).length = xs.length := by simp [encBl]
set_option maxRecDepth 100000 in
set_option maxHeartbeats 2000000 in
theorem rpack13_any (xs : List Nat) (h : BlOk xs) (w : World) (A : Option Addr) (c : Nat) (hc : 256 ≤ c) (hs : Sl w w.heap.size 1 A 256 ((allB xs).map Value.bool)) :
    Calls Tryz.prog 121 #[.slice A 256 c] w (RetB w (.agg (encBl xs).toArray)) := by
  obtain ⟨b, o, rfl, _, _⟩ := hs.2 (by omega)
  have HS := Lib.hid hs
  have HX := Lib.hid h
  have K1 : Hid (Blk ((w.alloc (.cells #[.int .u64 0, .int .u64 0, .int .u64 0, .int .u64 0] 60)).alloc (.cells #[.int .u64 0, .int .u64 0, .int .u64 0, .int .u64 0] 60)) w.heap.size 60 #[.int .u64 0, .int .u64 0, .int .u64 0, .int .u64 0]) := (Blk.new _ _ _).alloc _
  have K2 : Hid (Blk ((w.alloc (.cells #[.int .u64 0, .int .u64 0, .int .u64 0, .int .u64 0] 60)).alloc (.cells #[.int .u64 0, .int .u64 0, .int .u64 0, .int .u64 0] 60)) (w.heap.size + 1) 60 (encBl (pkB xs 0)).toArray) := Blk.newAt (by simp) _ _
  have B0 : Hid (Below w.heap.size w ((w.alloc (.cells #[.int .u64 0, .int .u64 0, .int .u64 0, .int .u64 0] 60)).alloc (.cells #[.int .u64 0, .int .u64 0, .int .u64 0, .int .u64 0] 60))) := ((Below.refl _ _).alloc (Nat.le_refl _) _).alloc (by simp) _
  have hgr : Hid (w.heap.size ≤ w.heap.size) := Nat.le_refl _
  have hgb : Hid (w.heap.size ≤ w.heap.size + 1) := Nat.le_succ _
  have hne : Hid (w.heap.size ≠ w.heap.size + 1) := by rw [Hid]; omega
  clear hs h
  go_enter Tryz.func121, Tryz.ntmps121
  go_upto_region 2 with fail
  generalize ((w.alloc (.cells #[.int .u64 0, .int .u64 0, .int .u64 0, .int .u64 0] 60)).alloc (.cells #[.int .u64 0, .int .u64 0, .int .u64 0, .int .u64 0] 60)) = w2 at *
  generalize w.heap.size + 1 = gb at *
  obtain ⟨gr, hgr'⟩ : ∃ gr, gr = w.heap.size := ⟨_, rfl⟩
  rw [← hgr'] at K1 hne ⊢
  replace hgr' := Lib.hid hgr'
  go_wp2_with fail
  go_loopw [4] (fun i wr => ∃ k : Nat, k ≤ 4 ∧ i = .int .i64 k ∧ Hid (Blk wr gb 60 (encBl (pkB xs k)).toArray) ∧ Hid (Blk wr gr 60 #[.int .u64 0, .int .u64 0, .int .u64 0, .int .u64 0]) ∧ Hid (Below w.heap.size w wr)) (fun i _ => 4 - (intOf i).toNat)
  case atStart => exact ⟨0, by omega, rfl, K2.out, K1.out, B0.out⟩
  case round =>
    clear K1 K2 B0
    obtain ⟨k, hk, rfl, K2, K1, B⟩ := hrel
    have hk0 : (0 : Int) ≤ (k : Int) := by omega
    by_cases hlt : k < 4
    · have hlk : (k : Int) < 4 := by omega
      have R5 := Lib.hid (fun u => index_run64 gb hlt u)
      have SC := Lib.hid (fun u => cut64 b o 256 c k hlt hc u)
      have SL := Lib.hid (sl_cut HX.out (HS.out.up B.out (Nat.le_refl _)) hlt)
      have HN := Lib.hid (rnum_any (xs.getD k 0).testBit wr _ (c - 64 * k) SL.out)
      have hv : numL (bl (xs.getD k 0).testBit) = xs.getD k 0 := num_bits (getD_lt HX.out k)
      rw [hv] at HN
      have N := Lib.hid (pkB_set HX.out hlt)
      have hl4 := pkB_len HX.out hk
      have hu : ∃ u, wr.cell? ⟨gb, k, none⟩ = some u := by
        rw [K2.out.cell k]
        have : k < (encBl (pkB xs k)).toArray.size := by rw [List.size_toArray, encBl_lenN, hl4]; exact hlt
        exact ⟨_, Array.getElem?_eq_getElem this⟩
      obtain ⟨u, hu⟩ := hu
      have hf : wr.frozen? ⟨gb, k, none⟩ = false := K2.out.fr k
      have ST := Lib.hid (store64_run gb k (xs.getD k 0) wr hu hf)
      have K3 : Hid (Blk (wr.setCell ⟨gb, k, none⟩ (.int .u64 ((xs.getD k 0 : Nat) : Int))) gb 60 (encBl (pkB xs (k + 1))).toArray) := by
        have := K2.out.set_ k (.int .u64 ((xs.getD k 0 : Nat) : Int))
        rw [Hid, ← N.out, ← encBl_set]
        simpa using this
      have K4 : Hid (Blk (wr.setCell ⟨gb, k, none⟩ (.int .u64 ((xs.getD k 0 : Nat) : Int))) gr 60 #[.int .u64 0, .int .u64 0, .int .u64 0, .int .u64 0]) := K1.out.far (p := ⟨gb, k, none⟩) hne.out _
      have B3 : Hid (Below w.heap.size w (wr.setCell ⟨gb, k, none⟩ (.int .u64 ((xs.getD k 0 : Nat) : Int)))) := B.out.setCell hgb.out _
      clear hu hf hv SL hl4
      generalize xs.getD k 0 = y at *
      go_wp2_with (first
        | ((with_reducible refine wpList_sliced ?_ ?_ ?_ ?_ (SC.out _) ?_); rfl; rfl; rfl; rfl))
      refine HN.out.mono ?_
      rintro e w3 ⟨rfl, rfl⟩
      clear HN
      go_wp2_with (first
        | ((with_reducible refine wpList_idx ?_ ?_ (R5.out _) ?_); rfl; rfl)
        | ((with_reducible refine wpList_st ?_ ?_ ST.out ?_); rfl; rfl))
      clear ST R5 SC K1 K2 B
      go_roundw
      case rel => exact ⟨k + 1, by omega, by go_num, K3.out, K4.out, B3.out⟩
      case measure => simp [intOf]; omega
    · have hk' : k = 4 := by omega
      subst hk'
      have e4 : pkB xs 4 = xs := by unfold pkB; rw [List.take_of_length_le (by rw [HX.out.1]; exact Nat.le_refl _)]; simp
      rw [e4] at K2
      obtain ⟨ya, yb, yc, yd, hy⟩ := blOk_four HX.out
      subst hy
      have HO : Hid ((encBl [ya, yb, yc, yd]).toArray.all (·.oneCell') = true) := bl_one
      have HI : Hid ((Tryz.prog.info? 60).map (·.size) = some ((encBl [ya, yb, yc, yd]).toArray : Array Value).size) := infoBl
      have KR := Lib.hid (K1.out.row (encBl [ya, yb, yc, yd]).toArray)
      have BB := Lib.hid (below_setRow B.out (by rw [hgr'.out]; exact Nat.le_refl _) (encBl [ya, yb, yc, yd]).toArray (g := gr))
      go_wp2_with (first
        | (refine wpList_load_row rfl 60 _ (by rfl) gb (by rfl) _ _ _ _ K2.out underBl rfl HI.out ?_)
        | (refine wpList_store_row rfl 60 _ _ (by rfl) gr (encBl [ya, yb, yc, yd]).toArray (by rfl) (by rfl) _ _ K1.out HI.out rfl HO.out ?_))
      generalize (wr.setRow gr (encBl [ya, yb, yc, yd]).toArray) = w5 at *
      have z0 := KR.out.cell 0
      have z1 := KR.out.cell 1
      have z2 := KR.out.cell 2
      have z3 := KR.out.cell 3
      simp [encBl] at z0 z1 z2 z3
      refine bodyPost_ret (v := .agg (encBl [ya, yb, yc, yd]).toArray) ?_ rfl ⟨rfl, BB.out⟩
      simp [results, Tryz.results121, go_sem, z0, z1, z2, z3, encBl]
set_option maxRecDepth 100000 in
set_option maxHeartbeats 1000000 in
theorem all13_own (xs : List Nat) (h : BlOk xs) (w : World) : Calls Tryz.prog 119 #[.agg (encBl xs).toArray] w (OwnedRet w 4 1 256 ((allB xs).map Value.bool)) := by
  have ho := h
  obtain ⟨xa, xb, xc, xd, rfl⟩ := blOk_four h
  have K1 : Hid (Blk (w.alloc (.cells (encBl [xa, xb, xc, xd]).toArray 60)) w.heap.size 60 (encBl [xa, xb, xc, xd]).toArray) := Blk.new _ _ _
  have B0 : Hid (Below w.heap.size w (w.alloc (.cells (encBl [xa, xb, xc, xd]).toArray 60))) := below_new _ _
  go_enter Tryz.func119, Tryz.ntmps119
  go_upto_region 1 with fail
  generalize (w.alloc (.cells (encBl [xa, xb, xc, xd]).toArray 60)) = w2 at *
  obtain ⟨gb, hgb⟩ : ∃ g, g = w.heap.size := ⟨_, rfl⟩
  have hlt0 : gb < w2.heap.size := by rw [hgb]; exact K1.out.lt
  have hle : Hid (w.heap.size ≤ w2.heap.size) := B0.out.size
  have BS := Lib.hid (Below.refl w2.heap.size w2)
  rw [← hgb] at K1 ⊢
  clear hgb h
  generalize [xa, xb, xc, xd] = xs at *
  go_wp2_with fail
  go_loopw [3, 4] (fun v i wr => ∃ k : Nat, k ≤ 4 ∧ i = .int .i64 k ∧ Hid (wr.ownsRow w2.heap.size 4 1 v (64 * k) ((allB (xs.take k)).map Value.bool)) ∧ Hid (Blk wr gb 60 (encBl xs).toArray) ∧ Hid (Below w2.heap.size w2 wr)) (fun _ i _ => 4 - (intOf i).toNat)
  case atStart => exact ⟨0, by omega, rfl, World.ownsRow_nil _ _ _ _, K1.out, BS.out⟩
  case round =>
    clear K1 BS
    obtain ⟨k, hk, rfl, O, K1, B⟩ := hrel
    by_cases hlt : k < 4
    · have hlk : (k : Int) < 4 := by omega
      have c1 : wr.cell? ⟨gb, k, none⟩ = some (.int .u64 ((xs.getD k 0 : Nat) : Int)) := by rw [K1.out.cell]; simpa using encBl_get ho hlt
      have R5 := Lib.hid (fun u => index_run64 gb hlt u)
      have R6 := Lib.hid (load64_run gb _ _ wr c1)
      have SN := Lib.hid (allB_snoc (xs := xs) (k := k) (by rw [ho.1]; exact hlt))
      have HB := Lib.hid (fun u => rbits_any (xs.getD k 0) (getD_lt ho k) u)
      clear c1
      generalize xs.getD k 0 = x at *
      go_wp2_with (first
        | ((with_reducible refine wpList_idx ?_ ?_ (R5.out _) ?_); rfl; rfl)
        | ((with_reducible refine wpList_ld ?_ R6.out ?_); rfl))
      refine (HB.out _).mono ?_
      rintro e w3 ⟨A3, c3, rfl, _, s3, bn⟩
      have S3 : Hid (Sl w3 w3.heap.size 1 A3 64 ((bl x.testBit).map Value.bool)) := s3
      have O3 := Lib.hid (own_ext O.out bn)
      have K1 := Lib.hid (K1.out.ext bn)
      have B3 := Lib.hid (B.out.trans (bn.mono B.out.size))
      clear s3 bn HB R5 R6 O B
      go_wp2_with (at_builtin; refine wpList_cat boolSl O3.out S3.out (bools_one _) B3.out.size (by omega) (by unfold maxLen; omega) (by rfl) (by rfl) ?_; intro v4 w4 own4 bel4)
      have O4 : Hid (w4.ownsRow w2.heap.size 4 1 v4 (64 * (k + 1)) ((allB (xs.take (k + 1))).map Value.bool)) := by rw [Hid, SN.out, List.map_append]; exact own4
      have hbk : Hid (Blk w4 gb 60 (encBl xs).toArray) := K1.out.below bel4 hlt0
      have B4 := Lib.hid (B3.out.trans bel4)
      clear own4 bel4
      go_roundw
      case rel => exact ⟨k + 1, by omega, by go_num, O4.out, hbk.out, B4.out⟩
      case measure => simp [intOf]; omega
    · have hk' : k = 4 := by omega
      subst hk'
      rw [List.take_of_length_le (by rw [ho.1]; exact Nat.le_refl _)] at O
      go_wp2
      go_ret
      exact ⟨_, rfl, own_rebase O.out (fun k e => Nat.le_trans hle.out (O.out.lt k e).1), B0.out.trans (B.out.mono hle.out)⟩
set_option maxRecDepth 100000 in
set_option maxHeartbeats 1000000 in
theorem places_own (p : PidV) (w : World) : Calls Tryz.prog 120 #[.agg (encP p).toArray] w (OwnedRet w 3 1 3 ((placesN p).map fun q => Value.int .i64 ((q : Nat) : Int))) := by
  have K1 : Hid (Blk (w.alloc (.cells (encP p).toArray 33)) w.heap.size 33 (encP p).toArray) := Blk.new _ _ _
  have B0 : Hid (Below w.heap.size w (w.alloc (.cells (encP p).toArray 33))) := below_new _ _
  go_enter Tryz.func120, Tryz.ntmps120
  go_upto_region 1 with fail
  generalize (w.alloc (.cells (encP p).toArray 33)) = w2 at *
  obtain ⟨gp, hgp⟩ : ∃ g, g = w.heap.size := ⟨_, rfl⟩
  have hlt0 : gp < w2.heap.size := by rw [hgp]; exact K1.out.lt
  have hle : Hid (w.heap.size ≤ w2.heap.size) := B0.out.size
  have BS := Lib.hid (Below.refl w2.heap.size w2)
  rw [← hgp] at K1 ⊢
  clear hgp
  go_wp2_with fail
  go_loopw [3, 4] (fun v i wr => ∃ k : Nat, k ≤ 3 ∧ i = .int .u64 ((k : Int) + 1) ∧ Hid (wr.ownsRow w2.heap.size 3 1 v k (((placesN p).take k).map fun q => Value.int .i64 ((q : Nat) : Int))) ∧ Hid (Blk wr gp 33 (encP p).toArray) ∧ Hid (Below w2.heap.size w2 wr)) (fun _ i _ => 4 - (intOf i).toNat)
  case atStart => exact ⟨0, by omega, rfl, World.ownsRow_nil _ _ _ _, K1.out, BS.out⟩
  case round =>
    clear K1 BS
    obtain ⟨k, hk, rfl, O, K1, B⟩ := hrel
    have k0 : (0 : Int) ≤ (k : Int) := by omega
    by_cases hlt : k < 3
    · have hlk : (k : Int) + 1 ≤ 3 := by omega
      have hlk2 : (k : Int) < 3 := by omega
      have a0 : wr.cell? ⟨gp, 0, none⟩ = some (.int .u8 ((p.1.val : Nat) : Int)) := K1.out.cell 0
      have a1 : wr.cell? ⟨gp, 1, none⟩ = some (.int .u16 ((p.2.val : Nat) : Int)) := K1.out.cell 1
      have SN := Lib.hid (places_snoc p hlt)
      have F : Hid (placeN p k = mixN ((k + 1) * 4294967296 + (p.1.val * 65536 + p.2.val)) / 16777216 % 256) := rfl
      have hp := packN_lt p
      obtain ⟨n, hn⟩ : ∃ n, n = p.1.val * 65536 + p.2.val := ⟨_, rfl⟩
      have en : (n : Int) = ((p.1.val : Nat) : Int) * 65536 + ((p.2.val : Nat) : Int) := by omega
      rw [← hn] at F hp
      clear hn
      have hx : (k + 1) * 4294967296 + n < 18446744073709551616 := by omega
      have HM := Lib.hid (fun u => rmix_any ((k + 1) * 4294967296 + n) hx u)
      have hm := mix_lt hx
      obtain ⟨m, hm'⟩ : ∃ m, m = mixN ((k + 1) * 4294967296 + n) := ⟨_, rfl⟩
      rw [← hm'] at HM F hm
      have e : (((k + 1) * 4294967296 + n : Nat) : Int) = ((k : Int) + 1) * 4294967296 + ((p.1.val : Nat) : Int) * 65536 + ((p.2.val : Nat) : Int) := by omega
      rw [e] at HM
      clear en hx
      have u0 := (u8_inB p.1).1
      have u1 := (u8_inB p.1).2
      have v0 : (0 : Int) ≤ ((p.2.val : Nat) : Int) := by omega
      have v1 : ((p.2.val : Nat) : Int) < 65536 := by have := p.2.isLt; omega
      clear e hm' hp
      generalize ((p.1.val : Nat) : Int) = pa at *
      generalize ((p.2.val : Nat) : Int) = ps at *
      have m0 : (0 : Int) ≤ (m : Int) := by omega
      have m1 : (m : Int) < 18446744073709551616 := by omega
      go_wp2_with fail
      refine (HM.out _).mono ?_
      rintro e w3 ⟨rfl, bn⟩
      have O := Lib.hid (own_ext O.out bn)
      have K1 := Lib.hid (K1.out.ext bn)
      have B3 := Lib.hid (B.out.trans (bn.mono B.out.size))
      have FI : Hid ((m : Int) / 16777216 % 256 = ((placeN p k : Nat) : Int)) := by rw [Hid, F.out]; omega
      have q0 := placeN_lt p k
      clear bn HM B F a0 a1
      go_wp2_with (at_builtin; refine wpList_push intSlB O.out [.int .i64 ((placeN p k : Nat) : Int)] rfl (by simp [Value.oneCell']) B3.out.size (by omega) (by unfold maxLen; omega) (by rfl) (by rfl) (by rw [← FI.out]) ?_; intro v4 w4 own4 bel4)
      have O4 : Hid (w4.ownsRow w2.heap.size 3 1 v4 (k + 1) (((placesN p).take (k + 1)).map fun q => Value.int .i64 ((q : Nat) : Int))) := by rw [Hid, SN.out, List.map_append]; exact own4
      have K4 := Lib.hid (K1.out.below bel4 hlt0)
      have B4 := Lib.hid (B3.out.trans bel4)
      clear own4 bel4 O B3
      go_roundw
      case rel => exact ⟨k + 1, by omega, by go_num, O4.out, K4.out, B4.out⟩
      case measure => simp [intOf]; omega
    · have hk' : k = 3 := by omega
      subst hk'
      have e : (placesN p).take 3 = placesN p := rfl
      rw [e] at O
      clear e
      go_wp2
      go_ret
      exact ⟨_, rfl, own_rebase O.out (fun k e => Nat.le_trans hle.out (O.out.lt k e).1), B0.out.trans (B.out.mono hle.out)⟩
/-- a bit is written -/
theorem own_bit {w : World} {B b c q : Nat} {xs : List Bool} (h : w.ownsRow B 4 1 (.slice (some ⟨b, 0, none⟩) 256 c) 256 (xs.map Value.bool)) (hq : q < 256) : (w.setCell ⟨b, q, none⟩ (.bool true)).ownsRow B 4 1 (.slice (some ⟨b, 0, none⟩) 256 c) 256 ((xs.set q true).map Value.bool) ∧ w.frozen? ⟨b, q, none⟩ = false ∧ ∃ u, w.cell? ⟨b, q, none⟩ = some u := by
  refine ⟨by rw [List.map_set]; exact (h.stored q (.bool true)).1, h.frozenAt _, ?_⟩
  rw [h.cellAt _ (by omega), List.getElem?_eq_getElem (by rw [h.1]; omega)]
  exact ⟨_, rfl⟩
theorem own_head {w : World} {B n : Nat} {e : TypeId} {s : Nat} {v : Value} {xs : List Value} (h : w.ownsRow B e s v n xs) (hn : 0 < n) : ∃ g c, v = .slice (some ⟨g, 0, none⟩) n c ∧ n ≤ c := by
  obtain ⟨A, c, rfl, hc, _⟩ := Sl.of_own h
  rcases h.2 with ⟨h', h0⟩ | ⟨g', cap', cur, h', _⟩
  · omega
  · injection h' with h' _ _
    subst h'
    exact ⟨g', c, rfl, hc⟩
theorem indexB (b n c k : Nat) (hk : k < n) (w : World) : (Instr.indexAt 157 (.slice (some ⟨b, 0, none⟩) n c) (.int .i64 ((k : Nat) : Int))).run Tryz.prog w = .ok (.pointer (some ⟨b, k, none⟩)) w := by
  have h0 : (0 : Int) ≤ (k : Int) := by omega
  have h1 : (k : Int) < (n : Int) := by omega
  simp [go_sem, h0, h1]
theorem indexI (b n c k : Nat) (hk : k < n) (w : World) : (Instr.indexAt 110 (.slice (some ⟨b, 0, none⟩) n c) (.int .i64 ((k : Nat) : Int))).run Tryz.prog w = .ok (.pointer (some ⟨b, k, none⟩)) w := by
  have h0 : (0 : Int) ≤ (k : Int) := by omega
  have h1 : (k : Int) < (n : Int) := by omega
  simp [go_sem, h0, h1]
theorem loadI (b o : Nat) (w : World) (n : Int) (h : w.cell? ⟨b, o, none⟩ = some (.int .i64 n)) : (Instr.loadAt 3 (.pointer (some ⟨b, o, none⟩))).run Tryz.prog w = .ok (.int .i64 n) w := by simp [go_sem, h]
theorem storeB (b o : Nat) (w : World) (v : Bool) {u : Value} (h : w.cell? ⟨b, o, none⟩ = some u) (hf : w.frozen? ⟨b, o, none⟩ = false) : (Instr.storeAt 4 (.pointer (some ⟨b, o, none⟩)) (.bool v)).run Tryz.prog w = .ok () (w.setCell ⟨b, o, none⟩ (.bool v)) := by simp [go_sem, h, hf]
set_option maxRecDepth 100000 in
set_option maxHeartbeats 2000000 in
theorem rput13_any (xs : List Nat) (h : BlOk xs) (p : PidV) (w : World) : Calls Tryz.prog 90 #[.agg (encBl xs).toArray, .agg (encP p).toArray] w (RetB w (.agg (encBl (putN xs p 3)).toArray)) := by
  have HX := Lib.hid h
  have HI : Hid ((Tryz.prog.info? 60).map (·.size) = some ((encBl xs).toArray : Array Value).size) := bl_info h
  have K1 : Hid (Blk (((w.alloc (.cells (encBl xs).toArray 60)).alloc (.cells (encP p).toArray 33)).alloc (.cells #[.int .u64 0, .int .u64 0, .int .u64 0, .int .u64 0] 60)) w.heap.size 60 (encBl xs).toArray) := ((Blk.new _ _ _).alloc _).alloc _
  have K2 : Hid (Blk (((w.alloc (.cells (encBl xs).toArray 60)).alloc (.cells (encP p).toArray 33)).alloc (.cells #[.int .u64 0, .int .u64 0, .int .u64 0, .int .u64 0] 60)) (w.heap.size + 1) 33 (encP p).toArray) := (Blk.newAt (by simp) _ _).alloc _
  have K3 : Hid (Blk (((w.alloc (.cells (encBl xs).toArray 60)).alloc (.cells (encP p).toArray 33)).alloc (.cells #[.int .u64 0, .int .u64 0, .int .u64 0, .int .u64 0] 60)) (w.heap.size + 1 + 1) 60 #[.int .u64 0, .int .u64 0, .int .u64 0, .int .u64 0]) := Blk.newAt (by simp) _ _
  have B0 : Hid (Below w.heap.size w (((w.alloc (.cells (encBl xs).toArray 60)).alloc (.cells (encP p).toArray 33)).alloc (.cells #[.int .u64 0, .int .u64 0, .int .u64 0, .int .u64 0] 60))) := (((Below.refl _ _).alloc (Nat.le_refl _) _).alloc (by simp) _).alloc (by simp; omega) _
  have hgr : Hid (w.heap.size ≤ w.heap.size + 1 + 1) := by rw [Hid]; omega
  clear h
  go_enter Tryz.func90, Tryz.ntmps90
  go_upto_region 1 with fail
  generalize (((w.alloc (.cells (encBl xs).toArray 60)).alloc (.cells (encP p).toArray 33)).alloc (.cells #[.int .u64 0, .int .u64 0, .int .u64 0, .int .u64 0] 60)) = w2 at *
  generalize w.heap.size + 1 + 1 = gr at *
  generalize w.heap.size + 1 = g2 at *
  obtain ⟨g1, hg1⟩ : ∃ g1, g1 = w.heap.size := ⟨_, rfl⟩
  rw [← hg1] at K1 ⊢
  replace hg1 := Lib.hid hg1
  have KR2 : Hid (gr < w2.heap.size) := K3.out.lt
  go_wp2_with (refine wpList_load_row rfl 60 _ (by rfl) g1 (by rfl) _ _ _ _ K1.out underBl rfl HI.out ?_)
  refine (all13_own xs HX.out w2).mono ?_
  rintro e w3 ⟨v3, rfl, o3, b3⟩
  obtain ⟨gl, cl, rfl, hcl⟩ := own_head o3 (by omega)
  have O3 := Lib.hid o3
  have K2 := Lib.hid (K2.out.ext b3)
  have K3 := Lib.hid (K3.out.ext b3)
  have B3 := Lib.hid (B0.out.trans (b3.mono B0.out.size))
  have hgw : Hid (w.heap.size ≤ gl) := Nat.le_trans B0.out.size (o3.lt gl rfl).1
  have hgrl : Hid (gr < gl) := Nat.lt_of_lt_of_le KR2.out (o3.lt gl rfl).1
  clear o3 b3 B0 K1 KR2 HI
  go_wp2_with (refine wpList_load_row rfl 33 _ (by rfl) g2 (by rfl) _ _ _ _ K2.out underPid rfl infoPid ?_)
  refine (places_own p w3).mono ?_
  rintro e w4 ⟨v4, rfl, s4, b4⟩
  obtain ⟨gp, c4, rfl, _⟩ := own_head s4 (by omega)
  have S4 := Lib.hid s4
  have O4 := Lib.hid (own_ext O3.out b4)
  have K3 := Lib.hid (K3.out.ext b4)
  have B4 := Lib.hid (B3.out.trans (b4.mono B3.out.size))
  have h44 : Hid (w3.heap.size ≤ w4.heap.size) := b4.size
  have hgl3 : Hid (gl < w3.heap.size) := (O3.out.lt gl rfl).2
  clear s4 b4 O3 B3 K2
  go_wp2_with fail
  go_loopw [7] (fun i wr => ∃ k : Nat, k ≤ 3 ∧ i = .int .i64 k ∧ Hid (wr.ownsRow w2.heap.size 4 1 (.slice (some ⟨gl, 0, none⟩) 256 cl) 256 ((allB (putN xs p k)).map Value.bool)) ∧ Hid (wr.ownsRow w3.heap.size 3 1 (.slice (some ⟨gp, 0, none⟩) 3 c4) 3 ((placesN p).map fun q => Value.int .i64 ((q : Nat) : Int))) ∧ Hid (Blk wr gr 60 #[.int .u64 0, .int .u64 0, .int .u64 0, .int .u64 0]) ∧ Hid (Below w.heap.size w wr)) (fun i _ => 3 - (intOf i).toNat)
  case atStart => exact ⟨0, by omega, rfl, O4.out, S4.out, K3.out, B4.out⟩
  case round =>
    clear O4 S4 K3 B4
    obtain ⟨k, hk, rfl, O, S, K3, B⟩ := hrel
    have hk0 : (0 : Int) ≤ (k : Int) := by omega
    by_cases hlt : k < 3
    · have hlk : (k : Int) < 3 := by omega
      have hpk : (placesN p)[k]? = some (placeN p k) := by
        match k, hlt with
        | 0, _ => rfl
        | 1, _ => rfl
        | 2, _ => rfl
      have hc := S.out.cellAt k (by omega)
      rw [List.getElem?_map, hpk, Option.map_some] at hc
      have hq := placeN_lt p k
      have N : Hid (allB (putN xs p (k + 1)) = (allB (putN xs p k)).set (placeN p k) true) := allB_put (putN_ok HX.out p k) hq
      obtain ⟨o2, f2, u2, hu2⟩ := own_bit O.out hq
      rw [← N.out] at o2
      have O2 := Lib.hid o2
      have hpg : gp ≠ gl := own_ne_own S.out O.out (by decide) rfl rfl
      have S2 := Lib.hid (own_keepF (w' := wr.setCell ⟨gl, placeN p k, none⟩ (.bool true)) S.out fun g e => by
        obtain rfl : gp = g := by simpa [Value.ownBlock] using e
        exact Below.heap_setCell wr ⟨gl, placeN p k, none⟩ _ gp hpg)
      generalize placeN p k = q at *
      have hq0 : (0 : Int) ≤ (q : Int) := by omega
      have hq1 : (q : Int) < 256 := by omega
      have B2 := Lib.hid (B.out.setCell (p := ⟨gl, q, none⟩) hgw.out (.bool true))
      have K4 := Lib.hid (K3.out.far (p := ⟨gl, q, none⟩) (fun e => absurd (show gr = gl from e) (Nat.ne_of_lt hgrl.out)) (.bool true))
      have R1 := Lib.hid (fun u => indexI gp 3 c4 k hlt u)
      have R2 := Lib.hid (loadI gp k wr _ hc)
      have R3 := Lib.hid (fun u => indexB gl 256 cl q hq u)
      have R4 := Lib.hid (storeB gl q wr true hu2 f2)
      clear o2 O S K3 B hpk hc hu2 f2
      go_wp2_with (first
        | ((with_reducible refine wpList_idx ?_ ?_ (R1.out _) ?_); rfl; rfl)
        | ((with_reducible refine wpList_idx ?_ ?_ (R3.out _) ?_); rfl; rfl)
        | ((with_reducible refine wpList_ld ?_ R2.out ?_); rfl)
        | ((with_reducible refine wpList_st ?_ ?_ R4.out ?_); rfl; rfl))
      go_roundw
      case rel => exact ⟨k + 1, by omega, by go_num, O2.out, S2.out, K4.out, B2.out⟩
      case measure => simp [intOf]; omega
    · have hk' : k = 3 := by omega
      subst hk'
      have HB := putN_ok HX.out p 3
      obtain ⟨A9, c9, e9, hc9, s9⟩ := Sl.of_own O.out
      injection e9 with e9 _ e9'
      subst e9 e9'
      have HK := Lib.hid (rpack13_any (putN xs p 3) HB wr _ cl hcl s9)
      obtain ⟨ya, yb, yc, yd, hy⟩ := blOk_four HB
      clear s9 S O
      have hy' := Lib.hid hy
      rw [hy] at HK ⊢
      clear hy HB
      go_wp2_with fail
      refine HK.out.mono ?_
      rintro e w9 ⟨rfl, b9⟩
      have K9 := Lib.hid (K3.out.ext b9)
      have B9 := Lib.hid (B.out.trans (b9.mono B.out.size))
      clear b9 HK K3 B
      have HO : Hid ((encBl [ya, yb, yc, yd]).toArray.all (·.oneCell') = true) := bl_one
      have HI : Hid ((Tryz.prog.info? 60).map (·.size) = some ((encBl [ya, yb, yc, yd]).toArray : Array Value).size) := infoBl
      have KR := Lib.hid (K9.out.row (encBl [ya, yb, yc, yd]).toArray)
      have BB := Lib.hid (below_setRow B9.out hgr.out (encBl [ya, yb, yc, yd]).toArray (g := gr))
      go_wp2_with (refine wpList_store_row rfl 60 _ _ (by rfl) gr (encBl [ya, yb, yc, yd]).toArray (by rfl) (by rfl) _ _ K9.out HI.out rfl HO.out ?_)
      generalize (w9.setRow gr (encBl [ya, yb, yc, yd]).toArray) = w5 at *
      have z0 := KR.out.cell 0
      have z1 := KR.out.cell 1
      have z2 := KR.out.cell 2
      have z3 := KR.out.cell 3
      simp [encBl] at z0 z1 z2 z3
      refine bodyPost_ret (v := .agg (encBl [ya, yb, yc, yd]).toArray) ?_ rfl ⟨by rw [hy'.out], BB.out⟩
      simp [results, Tryz.results90, go_sem, z0, z1, z2, z3, encBl]
end Go.Proofs.YtnhbbggpgieipaaGreat

/- The document's pool: its hint, what fits, a new one: walked. -/
namespace Go.Proofs.YtnhbbggpgieipaaGreat
open Go.RowKit

set_option maxRecDepth 100000 in
set_option maxHeartbeats 1000000 in
theorem rof13_any (l : List PidV) (w : World) (A : Option Addr) (n c : Nat) (h : PidsAt w A n l) (hm : n ≤ maxLen) :
    Calls Tryz.prog 52 #[.slice A n c] w (RetB w (.agg (encBl (ofN l)).toArray)) := by
  unfold maxLen at hm
  have H := Lib.hid h
  clear h
  have K0 : Hid (Blk ((w.alloc (.cells #[.int .u64 0, .int .u64 0, .int .u64 0, .int .u64 0] 60)).alloc (.cells #[.int .u64 0, .int .u64 0, .int .u64 0, .int .u64 0] 60)) w.heap.size 60 #[.int .u64 0, .int .u64 0, .int .u64 0, .int .u64 0]) := (Blk.new _ _ _).alloc _
  have K1 : Hid (Blk ((w.alloc (.cells #[.int .u64 0, .int .u64 0, .int .u64 0, .int .u64 0] 60)).alloc (.cells #[.int .u64 0, .int .u64 0, .int .u64 0, .int .u64 0] 60)) (w.heap.size + 1) 60 (encBl zeroBl).toArray) := Blk.newAt (by simp) _ _
  have B0 : Hid (Below w.heap.size w ((w.alloc (.cells #[.int .u64 0, .int .u64 0, .int .u64 0, .int .u64 0] 60)).alloc (.cells #[.int .u64 0, .int .u64 0, .int .u64 0, .int .u64 0] 60))) := ((Below.refl _ _).alloc (Nat.le_refl _) _).alloc (by simp) _
  have E0 := ofN_zero l
  go_enter Tryz.func52, Tryz.ntmps52
  go_upto_region 2 with fail
  generalize ((w.alloc (.cells #[.int .u64 0, .int .u64 0, .int .u64 0, .int .u64 0] 60)).alloc (.cells #[.int .u64 0, .int .u64 0, .int .u64 0, .int .u64 0] 60)) = w2 at *
  obtain ⟨gr, hgr⟩ : ∃ g, g = w.heap.size := ⟨_, rfl⟩
  obtain ⟨gb, hgb⟩ : ∃ g, g = w.heap.size + 1 := ⟨_, rfl⟩
  have L1 : w.heap.size ≤ gb := by omega
  have L2 : w.heap.size ≤ gr := by omega
  have N1 : gr ≠ gb := by omega
  rw [← hgb, ← hgr]
  rw [← hgb] at K1
  rw [← hgr] at K0
  clear hgb hgr
  go_wp2_with fail
  go_loopw [4] (fun i wr => ∃ k : Nat, k ≤ n ∧ i = .int .i64 k ∧ Hid (Blk wr gb 60 (encBl (ofN (l.take k))).toArray) ∧ Hid (Blk wr gr 60 #[.int .u64 0, .int .u64 0, .int .u64 0, .int .u64 0]) ∧ Hid (Below w.heap.size w wr)) (fun i _ => n - (intOf i).toNat)
  case atStart => exact ⟨0, by omega, rfl, by rw [E0]; exact K1.out, K0.out, B0.out⟩
  case round =>
    clear K1 K0 B0 E0
    obtain ⟨k, hk, rfl, K1, K0, B⟩ := hrel
    have ho := ofN_ok (l.take k)
    by_cases hlt : k < n
    · have hlk : (k : Int) < (n : Int) := by omega
      have hk0 : (0 : Int) ≤ (k : Int) := by omega
      obtain ⟨b, o, y, rfl, hb, hy, R2⟩ := H.out.at_ hlt
      have R2 := Lib.hid (rangeAt_below R2 B.out hb)
      have hbl : Hid (b < wr.heap.size) := Nat.lt_of_lt_of_le hb B.out.size
      have E := Lib.hid (ofN_snoc hy)
      have HP := Lib.hid (fun u => rput13_any (ofN (l.take k)) ho y u)
      have HO := ofN_ok (l.take (k + 1))
      rw [E.out] at HO
      have HI := Lib.hid (bl_info HO)
      have HS : Hid ((encBl (putN (ofN (l.take k)) y 3)).toArray.size = (encBl (ofN (l.take k))).toArray.size) := by
        show (encBl (putN (ofN (l.take k)) y 3)).length = (encBl (ofN (l.take k))).length
        rw [encBl_len HO, encBl_len ho]
      generalize putN (ofN (l.take k)) y 3 = zs at *
      have HI1 := Lib.hid (bl_info ho)
      generalize ofN (l.take k) = ys at *
      clear hy ho HO hb
      go_upto_region 5 with fail
      refine wp_region_made 6 mixedT (by kernel_rfl) ?_
      simp only [List.take_succ_cons, List.take_zero, List.drop_succ_cons, List.drop_zero]
      repeat (first
        | (refine wpQuiet_load_row K1.out underBl rfl HI1.out rfl rfl ?_; simp only [List.set_cons_succ, List.set_cons_zero])
        | (refine wpQuiet_load_mid (rangeAt_ext R2.out hbl.out) underPid rfl infoPid rfl rfl ?_; simp only [List.set_cons_succ, List.set_cons_zero])
        | go_big_quiet_step ((go_at_call 90; exact ext_call (HP.out _))))
      refine wpQuiet_nil ?_
      rintro _ ⟨z, rfl⟩
      have K1 := Lib.hid (K1.out.ext z.h)
      have K0 := Lib.hid (K0.out.ext z.h)
      have B2 := Lib.hid (B.out.trans (z.h.mono B.out.size))
      generalize z.w = w4 at *
      have BB := Lib.hid (below_setRow B2.out L1 (encBl zs).toArray)
      have KR := Lib.hid (K1.out.row (encBl zs).toArray)
      have KO := Lib.hid (K0.out.rowFar N1 (encBl zs).toArray)
      clear HP R2 B
      go_wp2_with (refine wpList_store_row rfl 60 _ _ (by rfl) gb (encBl zs).toArray (by rfl) (by rfl) _ _ K1.out HI.out HS.out.symm bl_one ?_)
      go_roundw
      case rel => exact ⟨k + 1, by omega, by go_num, by rw [E.out]; exact KR.out, KO.out, BB.out⟩
      case measure => simp [intOf]; omega
    · have hk : k = n := by omega
      subst hk
      rw [List.take_of_length_le (by rw [H.out.len]; omega)] at K1 ho
      obtain ⟨ya, yb, yc, yd, hy⟩ := blOk_four ho
      rw [hy] at K1
      have BB := Lib.hid (below_setRow B.out L2 (encBl [ya, yb, yc, yd]).toArray)
      have KR := Lib.hid (K0.out.row (encBl [ya, yb, yc, yd]).toArray)
      have HI : Hid ((Tryz.prog.info? 60).map (·.size) = some ((encBl [ya, yb, yc, yd]).toArray : Array Value).size) := infoBl
      have HO : Hid ((encBl [ya, yb, yc, yd]).toArray.all (·.oneCell') = true) := bl_one
      have HY := Lib.hid hy
      clear hy ho
      go_wp2_with (first
        | (refine wpList_load_row rfl 60 _ (by rfl) gb (by rfl) _ _ _ _ K1.out underBl rfl infoBl ?_)
        | (refine wpList_store_row rfl 60 _ _ (by rfl) gr (encBl [ya, yb, yc, yd]).toArray (by rfl) (by rfl) _ _ K0.out HI.out rfl HO.out ?_))
      generalize (wr.setRow gr (encBl [ya, yb, yc, yd]).toArray) = w5 at *
      have z0 := KR.out.cell 0
      have z1 := KR.out.cell 1
      have z2 := KR.out.cell 2
      have z3 := KR.out.cell 3
      simp [encBl] at z0 z1 z2 z3
      refine bodyPost_ret (v := .agg (encBl [ya, yb, yc, yd]).toArray) ?_ rfl ⟨by rw [HY.out], BB.out⟩
      simp [results, Tryz.results52, go_sem, z0, z1, z2, z3, encBl]

theorem results_row {P : Program} {fn : Func} {p : Tmp} {ty : TypeId} (h : fn.results = #[.cell p ty]) (tmps : Array Value) (w : World) (g : Nat) (t : TypeId) (cs : Array Value) (D : TypeDesc)
    (hp : tmps.getD p undef = .pointer (some ⟨g, 0, none⟩)) (hg : Blk w g t cs) (hu : P.underlying ty = some D) (hd : (match D with | .struct _ | .array _ _ => true | _ => false) = true) (hi : (P.info? ty).map (·.size) = some cs.size) :
    (results fn tmps).run P w = .ok (.agg cs) w := results_cell_row h tmps w g t cs (0, 0) D hp hg hu hd hi
/-- the document's pool, as a value -/
def rpV (most : Int) (A : Option Addr) (n c : Nat) : Array Value := #[.int .i64 most, .slice A n c]
theorem underRp : Tryz.prog.underlying 29 = some (.struct (Tryz.prog.fieldsOf 29)) := by kernel_rfl
theorem infoRp : (Tryz.prog.info? 29).map (·.size) = some 2 := by kernel_rfl
theorem allocRp (w : World) : (Instr.alloc 29 true (.tuple #[])).run Tryz.prog w = .ok (.pointer (some ⟨w.heap.size, 0, none⟩)) (w.alloc (.cells #[.int .i64 0, .slice none 0 0] 29)) := by kernel_rfl
theorem buildRp1 (n : Int) (w : World) : (Instr.build 29 #[(0, .int .i64 n)]).run Tryz.prog w = .ok (.agg (rpV n none 0 0)) w := by kernel_rfl
theorem buildRp2 (n : Int) (A : Option Addr) (m c : Nat) (w : World) : (Instr.build 29 #[(0, .int .i64 n), (1, .slice A m c)]).run Tryz.prog w = .ok (.agg (rpV n A m c)) w := by kernel_rfl
theorem rpV_one {n : Int} {A : Option Addr} {m c : Nat} : (rpV n A m c).all (·.oneCell') = true := by simp [rpV, Value.oneCell']
set_option maxRecDepth 100000 in
set_option maxHeartbeats 1000000 in
theorem rbloomPl_any (L : List PatV) (most : Int) (w : World) (A : Option Addr) (n c : Nat) (h : PatsAt w A n L) (hm : n ≤ 100000) :
    Calls Tryz.prog 22 #[.agg (rpV most A n c)] w (RetB w (.agg (encBl (ofN (idsV L))).toArray)) := by
  have H := Lib.hid h
  have K0 : Hid (Blk ((w.alloc (.cells (rpV most A n c) 29)).alloc (.cells #[.int .u64 0, .int .u64 0, .int .u64 0, .int .u64 0] 60)) w.heap.size 29 (rpV most A n c)) := (Blk.new _ _ _).alloc _
  have K1 : Hid (Blk ((w.alloc (.cells (rpV most A n c) 29)).alloc (.cells #[.int .u64 0, .int .u64 0, .int .u64 0, .int .u64 0] 60)) (w.heap.size + 1) 60 #[.int .u64 0, .int .u64 0, .int .u64 0, .int .u64 0]) := Blk.newAt (by simp) _ _
  have B0 : Hid (Below w.heap.size w ((w.alloc (.cells (rpV most A n c) 29)).alloc (.cells #[.int .u64 0, .int .u64 0, .int .u64 0, .int .u64 0] 60))) := ((Below.refl _ _).alloc (Nat.le_refl _) _).alloc (by simp) _
  have hgr : Hid (w.heap.size ≤ w.heap.size + 1) := Nat.le_succ _
  clear h
  go_enter Tryz.func22, Tryz.ntmps22
  go_upto_region 1 with fail
  generalize ((w.alloc (.cells (rpV most A n c) 29)).alloc (.cells #[.int .u64 0, .int .u64 0, .int .u64 0, .int .u64 0] 60)) = w2 at *
  generalize w.heap.size + 1 = gr at *
  obtain ⟨gp, hgp⟩ : ∃ gp, gp = w.heap.size := ⟨_, rfl⟩
  rw [← hgp] at K0 ⊢
  replace hgp := Lib.hid hgp
  have H := Lib.hid (H.out.ext B0.out)
  have BS := Lib.hid (Below.refl w2.heap.size w2)
  go_wp2_with fail
  go_loopw [4, 3] (fun i s wr => ∃ k : Nat, k ≤ n ∧ i = .int .i64 k ∧ Hid (wr.ownsRow w2.heap.size 33 2 s k ((idsV (L.take k)).flatMap encP)) ∧ Hid (Below w2.heap.size w2 wr)) (fun i _ _ => n - (intOf i).toNat)
  case atStart => exact ⟨0, by omega, rfl, World.ownsRow_nil _ _ _ _, BS.out⟩
  case round =>
    clear BS
    obtain ⟨k, hk, rfl, O, B⟩ := hrel
    have hk0 : (0 : Int) ≤ (k : Int) := by omega
    have KP := Lib.hid (K0.out.ext B.out)
    have y1 : wr.cell? ⟨gp, 1, none⟩ = some (.slice A n c) := KP.out.cell 1
    by_cases hlt : k < n
    · have hlk : (k : Int) < (n : Int) := by omega
      obtain ⟨b, o, x, r, rfl, hb, hx, pa, R⟩ := (H.out.ext B.out).at_ hlt
      obtain ⟨⟨A3, c3, A4, c4, rfl, _, _⟩, _, _⟩ := pa
      have RP := Lib.hid (pid_range R)
      have N : Hid ((idsV (L.take (k + 1))).flatMap encP = (idsV (L.take k)).flatMap encP ++ encP x.1) := by
        rw [Hid, take_snoc' hx]; simp [idsV]
      have hOB : Hid (w2.heap.size ≤ wr.heap.size) := B.out.size
      clear R hx hb
      go_wp2_with (first
        | (refine wpList_load_mid rfl 33 _ (by rfl) b (o + k * 4) (by rfl) _ _ RP.out underPid rfl infoPid ?_)
        | (refine wpList_lit1 pidSl (encP_len x.1) (by omega) (by rfl) ?_)
        | (at_builtin; refine wpList_pushF pidSl O.out (encP x.1) rfl (encP_one x.1) hOB.out (by omega) (by unfold maxLen; omega) (by rfl) (by rfl) (by rfl) ?_; intro v1 w6 own1 kp hv1))
      have O6 : Hid (w6.ownsRow w2.heap.size 33 2 v1 (k + 1) ((idsV (L.take (k + 1))).flatMap encP)) := by rw [N.out]; exact own1
      have B6 := Lib.hid (B.out.trans (kp.below (fun k e => (O.out.lt k e).1) B.out.size))
      clear own1 kp hv1 O B RP N
      go_roundw
      case rel => exact ⟨k + 1, by omega, by go_num, O6.out, B6.out⟩
      case measure => simp [intOf]; omega
    · have hlk : ¬ ((k : Int) < (n : Int)) := by omega
      have hk' : k = n := by omega
      subst hk'
      rw [List.take_of_length_le (by rw [H.out.len]; exact Nat.le_refl _)] at O
      obtain ⟨A5, c5, rfl, _, ps⟩ := PidsAt.of_own O.out (by simp [idsV, H.out.len])
      have HB := Lib.hid (rof13_any (idsV L) wr A5 k c5 ps (by unfold maxLen; omega))
      have K1 := Lib.hid (K1.out.ext B.out)
      have B2 := Lib.hid (B0.out.trans (B.out.mono B0.out.size))
      obtain ⟨ya, yb, yc, yd, hy⟩ := blOk_four (ofN_ok (idsV L))
      clear ps O
      rw [hy] at HB
      have hy := Lib.hid hy
      go_wp2_with fail
      refine HB.out.mono ?_
      rintro e w3 ⟨rfl, b3⟩
      have B3 := Lib.hid (B2.out.trans (b3.mono B2.out.size))
      have K3 := Lib.hid (K1.out.ext b3)
      clear b3 HB B2 K1
      have HO : Hid ((encBl [ya, yb, yc, yd]).toArray.all (·.oneCell') = true) := bl_one
      have HI : Hid ((Tryz.prog.info? 60).map (·.size) = some ((encBl [ya, yb, yc, yd]).toArray : Array Value).size) := infoBl
      have KR := Lib.hid (K3.out.row (encBl [ya, yb, yc, yd]).toArray)
      have BB := Lib.hid (below_setRow B3.out hgr.out (encBl [ya, yb, yc, yd]).toArray (g := gr))
      go_wp2_with (refine wpList_store_row rfl 60 _ _ (by rfl) gr (encBl [ya, yb, yc, yd]).toArray (by rfl) (by rfl) _ _ K3.out HI.out rfl HO.out ?_)
      generalize (w3.setRow gr (encBl [ya, yb, yc, yd]).toArray) = w5 at *
      have z0 := KR.out.cell 0
      have z1 := KR.out.cell 1
      have z2 := KR.out.cell 2
      have z3 := KR.out.cell 3
      simp [encBl] at z0 z1 z2 z3
      refine bodyPost_ret (v := .agg (encBl [ya, yb, yc, yd]).toArray) ?_ rfl ⟨by rw [hy.out], BB.out⟩
      simp [results, Tryz.results22, go_sem, z0, z1, z2, z3, encBl]
set_option maxRecDepth 100000 in
set_option maxHeartbeats 1000000 in
theorem rnewPl_any (n : Int) (w : World) : Calls Tryz.prog 8 #[.int .i64 n] w (RetB w (.agg (rpV (roomV n) none 0 0))) := by
  have K0 : Hid (Blk (w.alloc (.cells #[.int .i64 0, .slice none 0 0] 29)) w.heap.size 29 #[.int .i64 0, .slice none 0 0]) := Blk.new _ _ _
  have B0 : Hid (Below w.heap.size w (w.alloc (.cells #[.int .i64 0, .slice none 0 0] 29))) := below_new _ _
  have key : ∀ m : Int, roomV n = m → Hid (roomV n = m) := fun _ h => h
  by_cases h1 : n < 0
  · have e := key 0 (by unfold roomV; omega)
    go_enter Tryz.func8, Tryz.ntmps8
    go_wp2_with (first
      | (refine wpList_alloced (allocRp _) ?_)
      | (refine wpList_built (buildRp1 _ _) (by rfl) ?_)
      | (refine wpList_store_row rfl 29 _ _ (by rfl) w.heap.size (rpV 0 none 0 0) (by rfl) (by rfl) _ _ K0.out infoRp rfl rpV_one ?_))
    refine bodyPost_ret (results_row rfl _ _ w.heap.size _ (rpV 0 none 0 0) _ rfl (K0.out.row _) underRp rfl infoRp) rfl ?_
    exact ⟨by rw [e.out], below_setRow B0.out (Nat.le_refl _) _⟩
  · by_cases h2 : 32 < n
    · have e := key 32 (by unfold roomV; omega)
      go_enter Tryz.func8, Tryz.ntmps8
      go_wp2_with (first
        | (refine wpList_alloced (allocRp _) ?_)
        | (refine wpList_built (buildRp1 _ _) (by rfl) ?_)
        | (refine wpList_store_row rfl 29 _ _ (by rfl) w.heap.size (rpV 32 none 0 0) (by rfl) (by rfl) _ _ K0.out infoRp rfl rpV_one ?_))
      refine bodyPost_ret (results_row rfl _ _ w.heap.size _ (rpV 32 none 0 0) _ rfl (K0.out.row _) underRp rfl infoRp) rfl ?_
      exact ⟨by rw [e.out], below_setRow B0.out (Nat.le_refl _) _⟩
    · have e := key n (by unfold roomV; omega)
      go_enter Tryz.func8, Tryz.ntmps8
      go_wp2_with (first
        | (refine wpList_alloced (allocRp _) ?_)
        | (refine wpList_built (buildRp1 _ _) (by rfl) ?_)
        | (refine wpList_store_row rfl 29 _ _ (by rfl) w.heap.size (rpV n none 0 0) (by rfl) (by rfl) _ _ K0.out infoRp rfl rpV_one ?_))
      refine bodyPost_ret (results_row rfl _ _ w.heap.size _ (rpV n none 0 0) _ rfl (K0.out.row _) underRp rfl infoRp) rfl ?_
      exact ⟨by rw [e.out], below_setRow B0.out (Nat.le_refl _) _⟩
end Go.Proofs.YtnhbbggpgieipaaGreat

/- The document's pool: whether a patch can come next; what is ready: walked. -/
namespace Go.Proofs.YtnhbbggpgieipaaGreat
open Go.RowKit

theorem fitB_lacks {v : List Int} {p : PatV} {d : PidV} (hd : d ∈ p.2.1) (h : hasP v d = false) : fitB v p = false := by
  unfold fitB
  have : p.2.1.all (hasP v) = false := by
    rw [List.all_eq_false]
    exact ⟨d, hd, by simp [h]⟩
  rw [this, Bool.and_false]
theorem fitB_all {v : List Int} {p : PatV} (h : p.2.1.all (hasP v) = true) : fitB v p = nextB v p.1 := by unfold fitB; rw [h, Bool.and_true]
set_option maxRecDepth 100000 in
set_option maxHeartbeats 2000000 in
theorem rfits_any (v : List Int) (hv : VecOk v) (p : PatV) (w : World) (cs : List Value) (hp : PatAt w cs p) (hn : p.2.1.length ≤ 100000) :
    Calls Tryz.prog 49 #[.agg (vecA v), .agg cs.toArray] w (RetB w (.bool (fitB v p))) := by
  obtain ⟨⟨A, c, A', c', rfl, H1, _⟩, _, _⟩ := hp
  have KV : Hid (Blk ((w.alloc (.cells (vecA v) 39)).alloc (.cells (patC p.1 A p.2.1.length c A' p.2.2.length c').toArray 37)) w.heap.size 39 (vecA v)) := (Blk.new _ _ _).alloc _
  have KP : Hid (Blk ((w.alloc (.cells (vecA v) 39)).alloc (.cells (patC p.1 A p.2.1.length c A' p.2.2.length c').toArray 37)) (w.heap.size + 1) 37 (patC p.1 A p.2.1.length c A' p.2.2.length c').toArray) := Blk.newAt (by simp) _ _
  have B0 : Hid (Below w.heap.size w ((w.alloc (.cells (vecA v) 39)).alloc (.cells (patC p.1 A p.2.1.length c A' p.2.2.length c').toArray 37))) := ((Below.refl _ _).alloc (Nat.le_refl _) _).alloc (by simp) _
  have P1 := Lib.hid (H1.ext B0.out)
  have HV := Lib.hid hv
  clear H1
  go_enter Tryz.func49, Tryz.ntmps49
  go_upto_region 1 with fail
  generalize ((w.alloc (.cells (vecA v) 39)).alloc (.cells (patC p.1 A p.2.1.length c A' p.2.2.length c').toArray 37)) = w2 at *
  generalize w.heap.size + 1 = gp at *
  have B0' := B0
  obtain ⟨gv, hgv⟩ : ∃ gv, gv = w.heap.size := ⟨_, rfl⟩
  rw [← hgv] at KV ⊢
  clear hgv
  have BS := Lib.hid (Below.refl w2.heap.size w2)
  go_wp2_with fail
  go_loopw [5] (fun i wr => ∃ k : Nat, k ≤ p.2.1.length ∧ i = .int .i64 k ∧ Hid ((p.2.1.take k).all (hasP v) = true) ∧ Hid (Below w2.heap.size w2 wr)) (fun i _ => p.2.1.length - (intOf i).toNat)
  case atStart => exact ⟨0, by omega, rfl, by simp [Hid], BS.out⟩
  case round =>
    clear BS
    obtain ⟨k, hk, rfl, T, B⟩ := hrel
    have hk0 : (0 : Int) ≤ (k : Int) := by omega
    have KQ := Lib.hid (KP.out.ext B.out)
    have KVQ := Lib.hid (KV.out.ext B.out)
    have q2 : wr.cell? ⟨gp, 2, none⟩ = some (.slice A p.2.1.length c) := KQ.out.cell 2
    have RV := Lib.hid (blk_vec KVQ.out)
    have gvl : Hid (gv < wr.heap.size) := KVQ.out.lt
    have RP := Lib.hid (patC_pid KQ.out)
    have gpl : Hid (gp < wr.heap.size) := KQ.out.lt
    have BW := Lib.hid (B0'.out.trans (B.out.mono B0'.out.size))
    by_cases hlt : k < p.2.1.length
    · have hlk : (k : Int) < (p.2.1.length : Int) := by omega
      obtain ⟨b, o, d, rfl, hb, hd, R⟩ := (P1.out.ext B.out).at_ hlt
      have R := Lib.hid R
      have hbl := Lib.hid hb
      have q2' : ∀ z : Ext wr, z.w.cell? ⟨gp, 2, none⟩ = some (.slice (some ⟨b, o, none⟩) p.2.1.length c) := fun z => (KQ.out.ext z.h).cell 2
      have HH : Hid (∀ u : World, Calls Tryz.prog 45 #[.agg (v.map (Value.int .u16)).toArray, .agg (encP d).toArray] u (RetB u (.bool (hasP v d)))) := fun u => rhas_any v HV.out d.1.val ((d.2.val : Nat) : Int) ⟨by omega, by have := d.2.isLt; omega⟩ u
      clear hb
      cases hh : hasP v d
      · rw [hh] at HH
        have N := Lib.hid (fitB_lacks (List.mem_of_getElem? hd) hh)
        clear hh hd T
        go_upto_region 4 with fail
        clear q2
        refine wp_region_ext mixedS (by kernel_rfl) ?_
        repeat (first
          | (refine wpQuiet_load_mid (rangeAt_ext RV.out gvl.out) under64 rfl (info64' HV.out) rfl rfl ?_; simp only [List.set_cons_succ, List.set_cons_zero])
          | (refine wpQuiet_load_mid (rangeAt_ext R.out hbl.out) underPid rfl infoPid rfl rfl ?_; simp only [List.set_cons_succ, List.set_cons_zero])
          | go_big_quiet_step ((go_at_call 45; exact ext_call (HH.out _))))
        refine wpQuiet_nil ?_
        rintro _ ⟨z, rfl⟩
        have B2 := Lib.hid (BW.out.trans (z.h.mono BW.out.size))
        generalize z.w = wq at *
        go_wp2
        go_ret
        exact ⟨ret_bool N.out.symm, B2.out⟩
      · rw [hh] at HH
        have N := Lib.hid (allL_snoc hd T.out hh)
        clear hh hd T
        go_upto_region 4 with fail
        clear q2
        refine wp_region_ext mixedS (by kernel_rfl) ?_
        repeat (first
          | (refine wpQuiet_load_mid (rangeAt_ext RV.out gvl.out) under64 rfl (info64' HV.out) rfl rfl ?_; simp only [List.set_cons_succ, List.set_cons_zero])
          | (refine wpQuiet_load_mid (rangeAt_ext R.out hbl.out) underPid rfl infoPid rfl rfl ?_; simp only [List.set_cons_succ, List.set_cons_zero])
          | go_big_quiet_step ((go_at_call 45; exact ext_call (HH.out _))))
        refine wpQuiet_nil ?_
        rintro _ ⟨z, rfl⟩
        have B2 := Lib.hid (B.out.trans (z.h.mono B.out.size))
        generalize z.w = wq at *
        clear q2' HH R RV RP
        go_wp2_with fail
        go_roundw
        case rel => exact ⟨k + 1, by omega, by go_num, N.out, B2.out⟩
        case measure => simp [intOf]; omega
    · have hlk : ¬ ((k : Int) < (p.2.1.length : Int)) := by omega
      rw [List.take_of_length_le (by omega)] at T
      have N := Lib.hid (fitB_all T.out)
      have HN := Lib.hid (fun u => rnext_any v HV.out p.1.1.val u)
      have EQ : ∀ u : World, (binOp .eql 33 (.agg #[.int .u8 (nextV v p.1.1.val).1, .int .u16 (nextV v p.1.1.val).2]) (.agg (encP p.1).toArray)).run Tryz.prog u = .ok (.bool (nextB v p.1)) u := fun u => eqXY (nextV v p.1.1.val).1 (nextV v p.1.1.val).2 ((p.1.1.val : Nat) : Int) ((p.1.2.val : Nat) : Int) u
      have q0 : ∀ z : Ext wr, z.w.cell? ⟨gp, 0, none⟩ = some (.int .u8 ((p.1.1.val : Nat) : Int)) := fun z => (KQ.out.ext z.h).cell 0
      clear T
      generalize nextB v p.1 = bb at *
      go_upto_region 6 with fail
      clear q2
      refine wp_region_ext mixedS (by kernel_rfl) ?_
      repeat (first
        | (refine wpQuiet_load_mid (rangeAt_ext RV.out gvl.out) under64 rfl (info64' HV.out) rfl rfl ?_; simp only [List.set_cons_succ, List.set_cons_zero])
        | (refine wpQuiet_load_mid (rangeAt_ext RP.out gpl.out) underPid rfl infoPid rfl rfl ?_; simp only [List.set_cons_succ, List.set_cons_zero])
        | go_big_quiet_step ((go_at_call 88; exact ext_call (HN.out _))))
      refine wpQuiet_nil ?_
      rintro _ ⟨z, rfl⟩
      have B2 := Lib.hid (BW.out.trans (z.h.mono BW.out.size))
      generalize z.w = wq at *
      clear q0
      go_wp2
      go_ret
      exact ⟨ret_bool N.out.symm, B2.out⟩
set_option maxRecDepth 100000 in
set_option maxHeartbeats 2000000 in
theorem rreadyPl_any (L : List PatV) (hg : ∀ p ∈ L, patB p = true) (most : Int) (v : List Int) (hv : VecOk v) (w : World) (G : Nat → Prop) (hG : ∀ k, G k → k < w.heap.size) (A : Option Addr) (n c : Nat) (h : PatsIn w G A n L) (hm : n ≤ 100000) :
    Calls Tryz.prog 16 #[.agg (rpV most A n c), .agg (vecA v)] w (RetGetR w G ((readyL v L).getD zeroPat) (readyL v L).isSome) := by
  have H := Lib.hid h
  have HV := Lib.hid hv
  have HG := Lib.hid hg
  have K0 : Hid (Blk (((w.alloc (.cells (rpV most A n c) 29)).alloc (.cells (vecA v) 39)).alloc (.cells #[.int .u8 0, .int .u16 0, .slice none 0 0, .slice none 0 0] 37)) w.heap.size 29 (rpV most A n c)) := ((Blk.new _ _ _).alloc _).alloc _
  have KV : Hid (Blk (((w.alloc (.cells (rpV most A n c) 29)).alloc (.cells (vecA v) 39)).alloc (.cells #[.int .u8 0, .int .u16 0, .slice none 0 0, .slice none 0 0] 37)) (w.heap.size + 1) 39 (vecA v)) := (Blk.newAt (by simp) _ _).alloc _
  have K2 : Hid (Blk (((w.alloc (.cells (rpV most A n c) 29)).alloc (.cells (vecA v) 39)).alloc (.cells #[.int .u8 0, .int .u16 0, .slice none 0 0, .slice none 0 0] 37)) (w.heap.size + 1 + 1) 37 #[.int .u8 0, .int .u16 0, .slice none 0 0, .slice none 0 0]) := Blk.newAt (by simp) _ _
  have B0 : Hid (Below w.heap.size w (((w.alloc (.cells (rpV most A n c) 29)).alloc (.cells (vecA v) 39)).alloc (.cells #[.int .u8 0, .int .u16 0, .slice none 0 0, .slice none 0 0] 37))) := (((Below.refl _ _).alloc (Nat.le_refl _) _).alloc (by simp) _).alloc (by simp; omega) _
  have hgr : Hid (w.heap.size ≤ w.heap.size + 1 + 1) := by rw [Hid]; omega
  have hgG : Hid (∀ k, G k → k ≠ w.heap.size + 1 + 1) := fun k e c => by have := hG k e; omega
  have hlen := h.len
  clear h hv hG hg
  go_enter Tryz.func16, Tryz.ntmps16
  go_upto_region 1 with fail
  generalize (((w.alloc (.cells (rpV most A n c) 29)).alloc (.cells (vecA v) 39)).alloc (.cells #[.int .u8 0, .int .u16 0, .slice none 0 0, .slice none 0 0] 37)) = w2 at *
  generalize w.heap.size + 1 + 1 = gr at *
  generalize w.heap.size + 1 = gv at *
  have B0' := B0
  obtain ⟨gp, hgp⟩ : ∃ gp, gp = w.heap.size := ⟨_, rfl⟩
  rw [← hgp] at K0 ⊢
  clear hgp
  have H := Lib.hid (H.out.ext B0.out)
  have BS := Lib.hid (Below.refl w2.heap.size w2)
  go_wp2_with fail
  go_loopw [6] (fun i wr => ∃ k : Nat, k ≤ n ∧ i = .int .i64 k ∧ Hid (∀ q ∈ L.take k, fitB v q = false) ∧ Hid (Below w2.heap.size w2 wr)) (fun i _ => n - (intOf i).toNat)
  case atStart => exact ⟨0, by omega, rfl, by simp [Hid], BS.out⟩
  case round =>
    clear BS
    obtain ⟨k, hk, rfl, T, B⟩ := hrel
    have hk0 : (0 : Int) ≤ (k : Int) := by omega
    have KQ := Lib.hid (K0.out.ext B.out)
    have KVQ := Lib.hid (KV.out.ext B.out)
    have K2Q := Lib.hid (K2.out.ext B.out)
    have HQ := Lib.hid (H.out.ext B.out)
    have q1 : wr.cell? ⟨gp, 1, none⟩ = some (.slice A n c) := KQ.out.cell 1
    have BW := Lib.hid (B0'.out.trans (B.out.mono B0'.out.size))
    by_cases hlt : k < n
    · have hlk : (k : Int) < (n : Int) := by omega
      obtain ⟨b, o, p, r, rfl, hb, hp, pa, R⟩ := HQ.out.pat_ hlt
      have PA := Lib.hid pa
      have R := Lib.hid R
      have hbl := Lib.hid hb
      have RV := Lib.hid (blk_vec KVQ.out)
      have gvl : Hid (gv < wr.heap.size) := KVQ.out.lt
      have q1' : ∀ z : Ext wr, z.w.cell? ⟨gp, 1, none⟩ = some (.slice (some ⟨b, o, none⟩) n c) := fun z => (KQ.out.ext z.h).cell 1
      have GL := patB_len (HG.out p (List.mem_of_getElem? hp))
      obtain ⟨⟨A3, c3, A4, c4, rfl, _, _, _, _⟩, _, _⟩ := PA.out
      have HF : Hid (∀ z : Ext wr, Calls Tryz.prog 49 #[.agg (v.map (Value.int .u16)).toArray, .agg (patC p.1 A3 p.2.1.length c3 A4 p.2.2.length c4).toArray] z.w (RetB z.w (.bool (fitB v p)))) := fun z => rfits_any v HV.out p z.w _ (PA.out.ext z.h).at_ (by have := GL.1; omega)
      clear pa hb GL
      cases hf : fitB v p
      · rw [hf] at HF
        have N := Lib.hid (fitK_snoc hp T.out hf)
        clear hf hp T
        go_upto_region 4 with fail
        clear q1
        refine wp_region_ext mixedS (by kernel_rfl) ?_
        repeat (first
          | (refine wpQuiet_load_mid (rangeAt_ext RV.out gvl.out) under64 rfl (info64' HV.out) rfl rfl ?_; simp only [List.set_cons_succ, List.set_cons_zero])
          | (refine wpQuiet_load_mid (rangeAt_ext R.out hbl.out) underPat rfl infoPat rfl rfl ?_; simp only [List.set_cons_succ, List.set_cons_zero])
          | go_big_quiet_step ((go_at_call 49; exact ext_call (HF.out _))))
        refine wpQuiet_nil ?_
        rintro _ ⟨z, rfl⟩
        have B2 := Lib.hid (B.out.trans (z.h.mono B.out.size))
        generalize z.w = wq at *
        clear q1' HF R RV
        go_wp2_with fail
        go_roundw
        case rel => exact ⟨k + 1, by omega, by go_num, N.out, B2.out⟩
        case measure => simp [intOf]; omega
      · rw [hf] at HF
        have N := Lib.hid (readyL_at hp T.out hf)
        clear hf hp T
        go_upto_region 4 with fail
        clear q1
        refine wp_region_ext mixedS (by kernel_rfl) ?_
        repeat (first
          | (refine wpQuiet_load_mid (rangeAt_ext RV.out gvl.out) under64 rfl (info64' HV.out) rfl rfl ?_; simp only [List.set_cons_succ, List.set_cons_zero])
          | (refine wpQuiet_load_mid (rangeAt_ext R.out hbl.out) underPat rfl infoPat rfl rfl ?_; simp only [List.set_cons_succ, List.set_cons_zero])
          | go_big_quiet_step ((go_at_call 49; exact ext_call (HF.out _))))
        refine wpQuiet_nil ?_
        rintro _ ⟨z, rfl⟩
        have q1 := q1' z
        have B2 := Lib.hid (BW.out.trans (z.h.mono BW.out.size))
        have PA := Lib.hid (PA.out.ext z.h)
        have R := Lib.hid (rangeAt_ext R.out hbl.out z.w ⟨z, rfl⟩)
        have K2Q := Lib.hid (K2Q.out.ext z.h)
        generalize z.w = wq at *
        clear q1' HF RV
        go_wp2_with (first
          | (refine wpList_load_mid rfl 37 _ (by rfl) b (o + k * 4) (by rfl) _ _ R.out underPat rfl infoPat ?_)
          | (refine wpList_store_row rfl 37 _ _ (by rfl) gr (patC p.1 A3 p.2.1.length c3 A4 p.2.2.length c4).toArray (by rfl) (by rfl) _ _ K2Q.out infoPat rfl patC_one ?_))
        refine bodyPost_ret (results_row_tmp rfl _ _ gr _ (patC p.1 A3 p.2.1.length c3 A4 p.2.2.length c4).toArray _ rfl (K2Q.out.row _) underPat rfl infoPat) rfl ?_
        refine ⟨patC p.1 A3 p.2.1.length c3 A4 p.2.2.length c4, ?_, ?_, below_setRow B2.out hgr.out _⟩
        · rw [N.out]; rfl
        · rw [N.out]
          exact PA.out.stay ⟨by simp, fun k _ hg => setRow_other _ _ _ _ (hgG.out k hg)⟩
    · rw [List.take_of_length_le (by omega)] at T
      have hlk : ¬ ((k : Int) < (n : Int)) := by omega
      have N := Lib.hid (readyL_none T.out)
      go_wp2_with (first
        | (refine wpList_built (buildPatZ _) (by rfl) ?_)
        | (refine wpList_store_row rfl 37 _ _ (by rfl) gr #[.int .u8 0, .int .u16 0, .slice none 0 0, .slice none 0 0] (by rfl) (by rfl) _ _ K2Q.out infoPat rfl zeroC_one ?_))
      refine bodyPost_ret (results_row_tmp rfl _ _ gr _ #[.int .u8 0, .int .u16 0, .slice none 0 0, .slice none 0 0] _ rfl (K2Q.out.row _) underPat rfl infoPat) rfl ?_
      refine ⟨[.int .u8 0, .int .u16 0, .slice none 0 0, .slice none 0 0], ?_, ?_, below_setRow BW.out hgr.out _⟩
      · rw [N.out]; rfl
      · rw [N.out]; exact zeroCells_in _ _
end Go.Proofs.YtnhbbggpgieipaaGreat

/- The document's pool: a patch is taken out, all that a vector has are taken out: walked. -/
namespace Go.Proofs.YtnhbbggpgieipaaGreat
open Go.RowKit

/-- a pool of the document's is handed back, and something -/
def RetRPl (w : World) (G : Nat → Prop) (most : Int) (L : List PatV) (x : Value) (e : Ending) (w' : World) : Prop := ∃ A c, e = .returned (.tuple #[.agg (rpV most A L.length c), x]) ∧ PatsIn w' (fun k => G k ∨ w.heap.size ≤ k) A L.length L ∧ Below w.heap.size w w'
theorem OwnG.push {G : Nat → Prop} {B : Nat} {w w' : World} {s v : Value} {l : List PatV} {rows : List (List Value)} {r : List Value} {p : PatV} (own : w.ownsRow B 37 4 s l.length rows.flatten) (RI : RowsIn w G rows l) (PA : PatIn w G r p)
    (ho : w'.ownsRow B 37 4 v (l.length + 1) (rows.flatten ++ r)) (hk : Kept (fun k => s.ownBlock = some k) w w') (hG : ∀ k, G k → k < B) : OwnG G B w' v (l ++ [p]) := by
  have st : Stay G w w' := hk.stay fun k _ hd e => by have := hG k hd; have := (own.lt k e).1; omega
  refine ⟨rows ++ [r], ?_, (RI.snoc PA).stay st⟩
  rw [List.length_append, List.flatten_append]
  simpa using ho
theorem OwnG.ext {G : Nat → Prop} {B : Nat} {w w' : World} {s : Value} {l : List PatV} (h : OwnG G B w s l) (hb : Below w.heap.size w w') : OwnG G B w' s l := by
  obtain ⟨rows, o1, o2⟩ := h
  exact ⟨rows, own_ext o1 hb, o2.stay (Stay.of_below hb)⟩
theorem OwnG.pats {G : Nat → Prop} {B B' : Nat} {w : World} {s : Value} {l : List PatV} (h : OwnG G B w s l) (hB : B' ≤ B) : ∃ A c, s = .slice A l.length c ∧ PatsIn w (fun k => G k ∨ B' ≤ k) A l.length l := by
  obtain ⟨rows, own, RI⟩ := h
  obtain ⟨A', c', rfl, _, hs⟩ := Sl.of_own own
  exact ⟨A', c', rfl, rfl, (own_inB own).mono fun k e => .inr (Nat.le_trans hB e.1), rows, RI.mono fun k e => .inl e, hs⟩
theorem OwnG.nil (G : Nat → Prop) (B : Nat) (w : World) : OwnG G B w (.slice none 0 0) [] := ⟨[], World.ownsRow_nil _ _ _ _, RowsIn.nil _ _⟩
theorem fieldRp0 (g : Nat) (w : World) : (Instr.fieldAt 29 (.pointer (some ⟨g, 0, none⟩)) 0).run Tryz.prog w = .ok (.pointer (some ⟨g, 0, none⟩)) w := by simp [go_sem]
theorem fieldRp1 (g : Nat) (w : World) : (Instr.fieldAt 29 (.pointer (some ⟨g, 0, none⟩)) 1).run Tryz.prog w = .ok (.pointer (some ⟨g, 1, none⟩)) w := by simp [go_sem]
theorem neqI (a b : Int) (u : World) : (binOp .neq 3 (.int .i64 a) (.int .i64 b)).run Tryz.prog u = .ok (.bool (!decide (a = b))) u := by
  simp [go_sem]
  by_cases h : a = b <;> simp [h]
theorem subI (a b : Nat) (h : b ≤ a) (h2 : a ≤ 100000) (u : World) : (binOp .sub 3 (.int .i64 ((a : Nat) : Int)) (.int .i64 ((b : Nat) : Int))).run Tryz.prog u = .ok (.int .i64 (((a : Nat) : Int) - ((b : Nat) : Int))) u := by
  have h1 : (0 : Int) ≤ ((a : Nat) : Int) - ((b : Nat) : Int) := by omega
  have h3 : ((a : Nat) : Int) - ((b : Nat) : Int) < 9223372036854775808 := by omega
  have e : IntKind.i64.wrap (((a : Nat) : Int) - ((b : Nat) : Int)) = ((a : Nat) : Int) - ((b : Nat) : Int) := by
    simp [IntKind.wrap, IntKind.signed, IntKind.bits]
    omega
  simp [go_sem, e]
theorem dropL_snocY {L : List PatV} {d : PidV} {k : Nat} {p : PatV} (h : L[k]? = some p) (hne : p.1 ≠ d) : dropL (L.take (k + 1)) d = dropL (L.take k) d ++ [p] := by
  unfold dropL
  rw [take_snoc' h, List.filter_append]
  simp [hne]
theorem dropL_snocN {L : List PatV} {d : PidV} {k : Nat} {p : PatV} (h : L[k]? = some p) (hne : p.1 = d) : dropL (L.take (k + 1)) d = dropL (L.take k) d := by
  unfold dropL
  rw [take_snoc' h, List.filter_append]
  simp [hne]
theorem dropL_le (L : List PatV) (d : PidV) : (dropL L d).length ≤ L.length := List.length_filter_le _ _
theorem dropB (L : List PatV) (d : PidV) : (!decide (((dropL L d).length : Int) = (L.length : Int))) = (findP L d).isSome := by
  have := dropL_len (L := L) (d := d)
  cases hf : findP L d with
  | none => rw [decide_eq_true (by have := this.2 hf; omega)]; rfl
  | some p =>
    rw [decide_eq_false]
    · rfl
    · intro e
      have := this.1 (by omega)
      rw [hf] at this; cases this
set_option maxRecDepth 100000 in
set_option maxHeartbeats 4000000 in
theorem rdropPl_any (L : List PatV) (most : Int) (d : PidV) (w : World) (G : Nat → Prop) (hG : ∀ k, G k → k < w.heap.size) (A : Option Addr) (c : Nat) (h : PatsIn w G A L.length L) (hm : L.length ≤ 100000) :
    Calls Tryz.prog 11 #[.agg (rpV most A L.length c), .agg (encP d).toArray] w (RetRPl w G most (dropL L d) (.bool (findP L d).isSome)) := by
  have H := Lib.hid h
  have K0 : Hid (Blk (((w.alloc (.cells (rpV most A L.length c) 29)).alloc (.cells (encP d).toArray 33)).alloc (.cells #[.int .i64 0, .slice none 0 0] 29)) w.heap.size 29 (rpV most A L.length c)) := ((Blk.new _ _ _).alloc _).alloc _
  have KV : Hid (Blk (((w.alloc (.cells (rpV most A L.length c) 29)).alloc (.cells (encP d).toArray 33)).alloc (.cells #[.int .i64 0, .slice none 0 0] 29)) (w.heap.size + 1) 33 (encP d).toArray) := (Blk.newAt (by simp) _ _).alloc _
  have K2 : Hid (Blk (((w.alloc (.cells (rpV most A L.length c) 29)).alloc (.cells (encP d).toArray 33)).alloc (.cells #[.int .i64 0, .slice none 0 0] 29)) (w.heap.size + 1 + 1) 29 #[.int .i64 0, .slice none 0 0]) := Blk.newAt (by simp) _ _
  have B0 : Hid (Below w.heap.size w (((w.alloc (.cells (rpV most A L.length c) 29)).alloc (.cells (encP d).toArray 33)).alloc (.cells #[.int .i64 0, .slice none 0 0] 29))) := (((Below.refl _ _).alloc (Nat.le_refl _) _).alloc (by simp) _).alloc (by simp; omega) _
  have hgr : Hid (w.heap.size ≤ w.heap.size + 1 + 1) := by rw [Hid]; omega
  have hgG : Hid (∀ k, G k → k ≠ w.heap.size + 1 + 1) := fun k e c => by have := hG k e; omega
  have hgn : Hid (w.heap.size ≠ w.heap.size + 1 + 1) := by rw [Hid]; omega
  have hG := Lib.hid (fun k e => Nat.lt_of_lt_of_le (hG k e) B0.out.size)
  clear h
  go_enter Tryz.func11, Tryz.ntmps11
  go_upto_region 1 with (refine wpList_alloced (allocRp _) ?_)
  generalize (((w.alloc (.cells (rpV most A L.length c) 29)).alloc (.cells (encP d).toArray 33)).alloc (.cells #[.int .i64 0, .slice none 0 0] 29)) = w2 at *
  generalize w.heap.size + 1 + 1 = gr at *
  generalize w.heap.size + 1 = gv at *
  have B0' := B0
  obtain ⟨gp, hgp⟩ : ∃ gp, gp = w.heap.size := ⟨_, rfl⟩
  rw [← hgp] at K0 hgn ⊢
  clear hgp
  have H := Lib.hid (H.out.ext B0.out)
  have BS := Lib.hid (Below.refl w2.heap.size w2)
  have hm1 : (L.length : Int) ≤ 9223372036854775807 := by omega
  have hgrl : Hid (gr < w2.heap.size) := K2.out.lt
  go_wp2_with fail
  go_loopw [7, 6] (fun i s wr => ∃ k : Nat, k ≤ L.length ∧ i = .int .i64 k ∧ Hid (OwnG G w2.heap.size wr s (dropL (L.take k) d)) ∧ Hid (Below w2.heap.size w2 wr)) (fun i _ _ => L.length - (intOf i).toNat)
  case atStart => exact ⟨0, by omega, rfl, OwnG.nil _ _ _, BS.out⟩
  case round =>
    clear BS
    obtain ⟨k, hk, rfl, O, B⟩ := hrel
    have hk0 : (0 : Int) ≤ (k : Int) := by omega
    have KQ := Lib.hid (K0.out.ext B.out)
    have KVQ := Lib.hid (KV.out.ext B.out)
    have q1 : wr.cell? ⟨gp, 1, none⟩ = some (.slice A L.length c) := KQ.out.cell 1
    by_cases hlt : k < L.length
    · have hlk : (k : Int) < (L.length : Int) := by omega
      obtain ⟨b, o, p, r, rfl, hb, hp, pa, R⟩ := (H.out.ext B.out).pat_ hlt
      have PA := Lib.hid pa
      have R := Lib.hid R
      have hbl := Lib.hid hb
      have q1' : ∀ z : Ext wr, z.w.cell? ⟨gp, 1, none⟩ = some (.slice (some ⟨b, o, none⟩) L.length c) := fun z => (KQ.out.ext z.h).cell 1
      obtain ⟨⟨A3, c3, A4, c4, rfl, _, _, _, _⟩, _, _⟩ := PA.out
      have RP := Lib.hid (pid_range R.out)
      have hOB : Hid (w2.heap.size ≤ wr.heap.size) := B.out.size
      have RD := Lib.hid KVQ.out.range
      have gvl : Hid (gv < wr.heap.size) := KVQ.out.lt
      have NEQ := fun u => neqP p.1 d u
      clear pa hb
      by_cases e1 : p.1 = d
      · have N := Lib.hid (dropL_snocN hp e1)
        have NEQ' : ∀ u : World, (binOp .neq 33 (.agg (encP p.1).toArray) (.agg (encP d).toArray)).run Tryz.prog u = .ok (.bool false) u := fun u => by rw [NEQ, decide_eq_true e1]; rfl
        clear NEQ e1 hp
        go_upto_region 5 with fail
        clear q1
        refine wp_region_ext mixedS (by kernel_rfl) ?_
        repeat (first
          | (refine wpQuiet_load_mid (rangeAt_ext RP.out hbl.out) underPid rfl infoPid rfl rfl ?_; simp only [List.set_cons_succ, List.set_cons_zero])
          | (refine wpQuiet_load_mid (rangeAt_ext RD.out gvl.out) underPid rfl infoPid rfl rfl ?_; simp only [List.set_cons_succ, List.set_cons_zero])
          | go_big_quiet_step (fail))
        refine wpQuiet_nil ?_
        rintro _ ⟨z, rfl⟩
        have B3 := Lib.hid (B.out.trans (z.h.mono B.out.size))
        have O3 := Lib.hid (O.out.ext z.h)
        rw [← N.out] at O3
        generalize z.w = w3 at *
        clear O PA R RP B hOB q1'
        go_wp2_with fail
        go_roundw
        case rel => exact ⟨k + 1, by omega, by go_num, O3.out, B3.out⟩
        case measure => simp [intOf]; omega
      · have N := Lib.hid (dropL_snocY hp e1)
        have NEQ' : ∀ u : World, (binOp .neq 33 (.agg (encP p.1).toArray) (.agg (encP d).toArray)).run Tryz.prog u = .ok (.bool true) u := fun u => by rw [NEQ, decide_eq_false e1]; rfl
        clear NEQ e1 hp
        go_upto_region 5 with fail
        clear q1
        refine wp_region_ext mixedS (by kernel_rfl) ?_
        repeat (first
          | (refine wpQuiet_load_mid (rangeAt_ext RP.out hbl.out) underPid rfl infoPid rfl rfl ?_; simp only [List.set_cons_succ, List.set_cons_zero])
          | (refine wpQuiet_load_mid (rangeAt_ext RD.out gvl.out) underPid rfl infoPid rfl rfl ?_; simp only [List.set_cons_succ, List.set_cons_zero])
          | go_big_quiet_step (fail))
        refine wpQuiet_nil ?_
        rintro _ ⟨z, rfl⟩
        have q1 := q1' z
        have B3 := Lib.hid (B.out.trans (z.h.mono B.out.size))
        have PA3 := Lib.hid (PA.out.ext z.h)
        have R3 := Lib.hid (rangeAt_ext R.out hbl.out z.w ⟨z, rfl⟩)
        have hOB3 : Hid (w2.heap.size ≤ z.w.heap.size) := Nat.le_trans hOB.out z.h.size
        have O3 := Lib.hid (O.out.ext z.h)
        generalize z.w = w3 at *
        clear O PA R RP B hOB q1'
        obtain ⟨rows, own, RI⟩ := O3.out
        have own := Lib.hid own
        have RI := Lib.hid RI
        have hle : Hid ((dropL (L.take k) d).length ≤ 100000) := Nat.le_trans (List.length_filter_le _ _) (by rw [List.length_take]; omega)
        clear O3
        go_wp2_with (first
          | (refine wpList_load_mid rfl 37 _ (by rfl) b (o + k * 4) (by rfl) _ _ R3.out underPat rfl infoPat ?_)
          | (refine wpList_lit1 patSl PA3.out.len4 (by omega) (by rfl) ?_)
          | (at_builtin; refine wpList_pushF patSl own.out (patC p.1 A3 p.2.1.length c3 A4 p.2.2.length c4) PA3.out.len4 PA3.out.one hOB3.out (by have := hle.out; omega) (by have := hle.out; unfold maxLen; omega) (by rfl) (by rfl) (by rfl) ?_; intro v5 w5 own5 kep5 new5))
        have O5 := Lib.hid (OwnG.push own.out RI.out PA3.out own5 kep5 hG.out)
        rw [← N.out] at O5
        have B5 := Lib.hid (B3.out.trans ((kep5.below (B := w2.heap.size) (fun k e => (own.out.lt k e).1) B3.out.size)))
        clear own5 kep5 new5
        go_roundw
        case rel => exact ⟨k + 1, by omega, by go_num, O5.out, B5.out⟩
        case measure => simp [intOf]; omega
    · have hlk : ¬ ((k : Int) < (L.length : Int)) := by omega
      have eL : L.take k = L := List.take_of_length_le (by omega)
      rw [eL] at O
      obtain ⟨A5, c5, rfl, PT⟩ := O.out.pats (Nat.le_refl _)
      have PT := Lib.hid PT
      have hle : Hid ((dropL L d).length ≤ L.length) := dropL_le L d
      have FX := Lib.hid (fun u : World => (neqI ((dropL L d).length : Int) (L.length : Int) u).trans (by rw [dropB]))
      have K2Q := Lib.hid (K2.out.ext B.out)
      have BW := Lib.hid (B0'.out.trans (B.out.mono B0'.out.size))
      clear eL O
      generalize hRL : (dropL L d) = M at *
      generalize hxx : (findP L d).isSome = xx at *
      go_upto_region 7 with fail
      clear q1
      refine wp_region_held (S := fun w' => Kept (fun k => k = gr) wr.drew w') mixedS ?_
      change wpAnyH _ _ _ _ _ _ _ _ wr.drew
      have D6 := (Below.refl wr.heap.size wr).drew
      have B9 : Hid (Kept (fun k => k = gr) wr.drew wr.drew) := Kept.refl _ _
      have KQ := Lib.hid (KQ.out.ext D6)
      have K2Q := Lib.hid (K2Q.out.ext D6)
      have PT := Lib.hid (PT.out.ext D6)
      have BW := Lib.hid (BW.out.trans (D6.mono BW.out.size))
      have hgr8 : Hid (gr < wr.drew.heap.size) := K2Q.out.lt
      clear D6
      generalize wr.drew = w8 at *
      have HC0 : Hid (∀ w', Kept (fun k => k = gr) w8 w' → w'.cell? ⟨gp, 0, none⟩ = some (.int .i64 most)) := fun w' h => (h.blk KQ.out hgn.out).cell 0
      have HC1 : Hid (∀ w', Kept (fun k => k = gr) w8 w' → w'.cell? ⟨gp, 1, none⟩ = some (.slice A L.length c)) := fun w' h => (h.blk KQ.out hgn.out).cell 1
      simp only [List.size_toArray, List.length_cons, List.length_nil]
      refine takeV (i := 0) (d := 31) (v := .pointer (some ⟨gp, 0, none⟩)) rfl (by kernel_rfl) (by kernel_rfl) (by kernel_rfl) (fun _ _ _ h => h) rfl (fun w' _ => exField rfl (fieldRp0 gp w')) B9.out ?_
      simp only [Act.put, List.setIfInBounds_toArray, List.set_cons_zero, List.set_cons_succ]
      refine takeV (i := 1) (d := 32) (v := .int .i64 most) rfl (by kernel_rfl) (by kernel_rfl) (by kernel_rfl) (fun _ _ _ h => h) rfl (fun w' h => exLoad rfl (loadIntC gp 0 w' most (HC0.out w' h))) B9.out ?_
      simp only [Act.put, List.setIfInBounds_toArray, List.set_cons_zero, List.set_cons_succ]
      refine takeV (i := 2) (d := 33) (v := .slice A5 M.length c5) rfl (by kernel_rfl) (by kernel_rfl) (by kernel_rfl) (fun _ _ _ h => h) rfl (fun _ _ => exMove (v := .slice A5 M.length c5) rfl) B9.out ?_
      simp only [Act.put, List.setIfInBounds_toArray, List.set_cons_zero, List.set_cons_succ]
      refine takeV (i := 3) (d := 34) (v := .agg (rpV most A5 M.length c5)) rfl (by kernel_rfl) (by kernel_rfl) (by kernel_rfl) (fun _ _ _ h => h) rfl (fun w' _ => exBuild (vs := #[(0, .int .i64 most), (1, .slice A5 M.length c5)]) (by simp [Act.eval]) (buildRp2 most A5 M.length c5 w')) B9.out ?_
      simp only [Act.put, List.setIfInBounds_toArray, List.set_cons_zero, List.set_cons_succ]
      refine takeV (i := 4) (d := 35) (v := .slice A5 M.length c5) rfl (by kernel_rfl) (by kernel_rfl) (by kernel_rfl) (fun _ _ _ h => h) rfl (fun _ _ => exMove (v := .slice A5 M.length c5) rfl) B9.out ?_
      simp only [Act.put, List.setIfInBounds_toArray, List.set_cons_zero, List.set_cons_succ]
      refine takeV (i := 5) (d := 36) (v := .int .i64 ((M.length : Nat) : Int)) rfl (by kernel_rfl) (by kernel_rfl) (by kernel_rfl) (fun _ _ _ h => h) rfl (fun _ _ => exLen Tryz.underlying27 rfl) B9.out ?_
      simp only [Act.put, List.setIfInBounds_toArray, List.set_cons_zero, List.set_cons_succ]
      refine takeV (i := 6) (d := 37) (v := .pointer (some ⟨gp, 1, none⟩)) rfl (by kernel_rfl) (by kernel_rfl) (by kernel_rfl) (fun _ _ _ h => h) rfl (fun w' _ => exField rfl (fieldRp1 gp w')) B9.out ?_
      simp only [Act.put, List.setIfInBounds_toArray, List.set_cons_zero, List.set_cons_succ]
      refine takeV (i := 7) (d := 38) (v := .slice A L.length c) rfl (by kernel_rfl) (by kernel_rfl) (by kernel_rfl) (fun _ _ _ h => h) rfl (fun w' h => exLoad rfl (loadPats gp 1 w' _ _ _ (HC1.out w' h))) B9.out ?_
      simp only [Act.put, List.setIfInBounds_toArray, List.set_cons_zero, List.set_cons_succ]
      refine takeV (i := 8) (d := 39) (v := .int .i64 ((L.length : Nat) : Int)) rfl (by kernel_rfl) (by kernel_rfl) (by kernel_rfl) (fun _ _ _ h => h) rfl (fun _ _ => exLen Tryz.underlying27 rfl) B9.out ?_
      simp only [Act.put, List.setIfInBounds_toArray, List.set_cons_zero, List.set_cons_succ]
      refine takeV (i := 9) (d := 40) (v := .bool xx) rfl (by kernel_rfl) (by kernel_rfl) (by kernel_rfl) (fun _ _ _ h => h) rfl (fun w' _ => exBin rfl rfl (by rfl) (FX.out w')) B9.out ?_
      simp only [Act.put, List.setIfInBounds_toArray, List.set_cons_zero, List.set_cons_succ]
      refine wpAnyH_all (rs := [10]) (by kernel_rfl) (by simp) ?_
      intro i hi
      simp only [List.mem_cons, List.not_mem_nil, or_false] at hi
      subst hi
      refine wpOp_of rfl rfl (wp_stored (cs := (rpV most A5 M.length c5)) rfl rfl K2Q.out infoRp rfl rpV_one ?_)
      refine ⟨Kept.setRow (F := fun k => k = gr) B9.out (.inl rfl) _, ?_⟩
      have KR := Lib.hid (K2Q.out.row (rpV most A5 M.length c5))
      have BE := Lib.hid (below_setRow BW.out hgr.out (rpV most A5 M.length c5))
      have PT : Hid (PatsIn (w8.setRow gr (rpV most A5 M.length c5)) (fun k => G k ∨ w.heap.size ≤ k) _ _ _) := (PT.out.stay ⟨by simp, fun k _ hg => setRow_other _ _ _ _ (hg.elim (hgG.out k) (fun hg => by have := hgrl.out; omega))⟩).mono fun k e => e.imp id (fun e => Nat.le_trans B0'.out.size e)
      have B12 := Lib.hid (Kept.setRow (F := fun k => k = gr) B9.out (.inl rfl) (rpV most A5 M.length c5))
      clear BW B9
      generalize (w8.setRow gr (rpV most A5 M.length c5)) = w10 at *
      refine takeV (i := 11) (d := 5) (v := .bool xx) rfl (by kernel_rfl) (by kernel_rfl) (by kernel_rfl) (fun _ _ _ h => h) rfl (fun _ _ => exAssign (v := .bool xx) rfl) B12.out ?_
      simp only [Act.put, List.setIfInBounds_toArray, List.set_cons_zero, List.set_cons_succ]
      refine wpAnyH_done (by kernel_rfl) ?_ _
      go_wp2_with fail
      refine bodyPost_ret (results_row_tmp rfl _ _ gr _ (rpV most A5 M.length c5) _ rfl KR.out underRp rfl infoRp) rfl ?_
      subst hRL hxx
      exact ⟨A5, c5, rfl, PT.out, BE.out⟩
set_option maxRecDepth 100000 in
set_option maxHeartbeats 4000000 in
theorem rprunePl_any (L : List PatV) (most : Int) (v : List Int) (hv : VecOk v) (w : World) (G : Nat → Prop) (hG : ∀ k, G k → k < w.heap.size) (A : Option Addr) (c : Nat) (h : PatsIn w G A L.length L) (hm : L.length ≤ 100000) :
    Calls Tryz.prog 13 #[.agg (rpV most A L.length c), .agg (vecA v)] w (RetRPl w G most (lackP v L) (.int .i64 ((L.length : Int) - ((lackP v L).length : Int)))) := by
  have H := Lib.hid h
  have HV := Lib.hid hv
  have K0 : Hid (Blk (((w.alloc (.cells (rpV most A L.length c) 29)).alloc (.cells (vecA v) 39)).alloc (.cells #[.int .i64 0, .slice none 0 0] 29)) w.heap.size 29 (rpV most A L.length c)) := ((Blk.new _ _ _).alloc _).alloc _
  have KV : Hid (Blk (((w.alloc (.cells (rpV most A L.length c) 29)).alloc (.cells (vecA v) 39)).alloc (.cells #[.int .i64 0, .slice none 0 0] 29)) (w.heap.size + 1) 39 (vecA v)) := (Blk.newAt (by simp) _ _).alloc _
  have K2 : Hid (Blk (((w.alloc (.cells (rpV most A L.length c) 29)).alloc (.cells (vecA v) 39)).alloc (.cells #[.int .i64 0, .slice none 0 0] 29)) (w.heap.size + 1 + 1) 29 #[.int .i64 0, .slice none 0 0]) := Blk.newAt (by simp) _ _
  have B0 : Hid (Below w.heap.size w (((w.alloc (.cells (rpV most A L.length c) 29)).alloc (.cells (vecA v) 39)).alloc (.cells #[.int .i64 0, .slice none 0 0] 29))) := (((Below.refl _ _).alloc (Nat.le_refl _) _).alloc (by simp) _).alloc (by simp; omega) _
  have hgr : Hid (w.heap.size ≤ w.heap.size + 1 + 1) := by rw [Hid]; omega
  have hgG : Hid (∀ k, G k → k ≠ w.heap.size + 1 + 1) := fun k e c => by have := hG k e; omega
  have hgn : Hid (w.heap.size ≠ w.heap.size + 1 + 1) := by rw [Hid]; omega
  have hG := Lib.hid (fun k e => Nat.lt_of_lt_of_le (hG k e) B0.out.size)
  clear h
  go_enter Tryz.func13, Tryz.ntmps13
  go_upto_region 1 with (refine wpList_alloced (allocRp _) ?_)
  generalize (((w.alloc (.cells (rpV most A L.length c) 29)).alloc (.cells (vecA v) 39)).alloc (.cells #[.int .i64 0, .slice none 0 0] 29)) = w2 at *
  generalize w.heap.size + 1 + 1 = gr at *
  generalize w.heap.size + 1 = gv at *
  have B0' := B0
  obtain ⟨gp, hgp⟩ : ∃ gp, gp = w.heap.size := ⟨_, rfl⟩
  rw [← hgp] at K0 hgn ⊢
  clear hgp
  have H := Lib.hid (H.out.ext B0.out)
  have BS := Lib.hid (Below.refl w2.heap.size w2)
  have hm1 : (L.length : Int) ≤ 9223372036854775807 := by omega
  have hgrl : Hid (gr < w2.heap.size) := K2.out.lt
  go_wp2_with fail
  go_loopw [7, 6] (fun i s wr => ∃ k : Nat, k ≤ L.length ∧ i = .int .i64 k ∧ Hid (OwnG G w2.heap.size wr s (lackP v (L.take k))) ∧ Hid (Below w2.heap.size w2 wr)) (fun i _ _ => L.length - (intOf i).toNat)
  case atStart => exact ⟨0, by omega, rfl, OwnG.nil _ _ _, BS.out⟩
  case round =>
    clear BS
    obtain ⟨k, hk, rfl, O, B⟩ := hrel
    have hk0 : (0 : Int) ≤ (k : Int) := by omega
    have KQ := Lib.hid (K0.out.ext B.out)
    have KVQ := Lib.hid (KV.out.ext B.out)
    have q1 : wr.cell? ⟨gp, 1, none⟩ = some (.slice A L.length c) := KQ.out.cell 1
    by_cases hlt : k < L.length
    · have hlk : (k : Int) < (L.length : Int) := by omega
      obtain ⟨b, o, p, r, rfl, hb, hp, pa, R⟩ := (H.out.ext B.out).pat_ hlt
      have PA := Lib.hid pa
      have R := Lib.hid R
      have hbl := Lib.hid hb
      have q1' : ∀ z : Ext wr, z.w.cell? ⟨gp, 1, none⟩ = some (.slice (some ⟨b, o, none⟩) L.length c) := fun z => (KQ.out.ext z.h).cell 1
      obtain ⟨⟨A3, c3, A4, c4, rfl, _, _, _, _⟩, _, _⟩ := PA.out
      have RP := Lib.hid (pid_range R.out)
      have hOB : Hid (w2.heap.size ≤ wr.heap.size) := B.out.size
      have RV := Lib.hid (blk_vec KVQ.out)
      have gvl : Hid (gv < wr.heap.size) := KVQ.out.lt
      have HP : Hid (∀ u : World, Calls Tryz.prog 45 #[.agg (v.map (Value.int .u16)).toArray, .agg (encP p.1).toArray] u (RetB u (.bool (hasP v p.1)))) := fun u => rhas_any v HV.out p.1.1.val ((p.1.2.val : Nat) : Int) ⟨by omega, by have := p.1.2.isLt; omega⟩ u
      clear pa hb
      cases hh : hasP v p.1
      · have N : Hid (lackP v (L.take (k + 1)) = lackP v (L.take k) ++ [p]) := by rw [Hid, lackP_snoc hp, if_neg (by simp [hh])]
        rw [hh] at HP
        clear hh hp
        go_upto_region 5 with fail
        clear q1
        refine wp_region_ext mixedS (by kernel_rfl) ?_
        repeat (first
          | (refine wpQuiet_load_mid (rangeAt_ext RP.out hbl.out) underPid rfl infoPid rfl rfl ?_; simp only [List.set_cons_succ, List.set_cons_zero])
          | (refine wpQuiet_load_mid (rangeAt_ext RV.out gvl.out) under64 rfl (info64' HV.out) rfl rfl ?_; simp only [List.set_cons_succ, List.set_cons_zero])
          | go_big_quiet_step ((go_at_call 45; exact ext_call (HP.out _))))
        refine wpQuiet_nil ?_
        rintro _ ⟨z, rfl⟩
        have q1 := q1' z
        have B3 := Lib.hid (B.out.trans (z.h.mono B.out.size))
        have PA3 := Lib.hid (PA.out.ext z.h)
        have R3 := Lib.hid (rangeAt_ext R.out hbl.out z.w ⟨z, rfl⟩)
        have hOB3 : Hid (w2.heap.size ≤ z.w.heap.size) := Nat.le_trans hOB.out z.h.size
        have O3 := Lib.hid (O.out.ext z.h)
        generalize z.w = w3 at *
        clear O PA R RP B hOB q1'
        obtain ⟨rows, own, RI⟩ := O3.out
        have own := Lib.hid own
        have RI := Lib.hid RI
        have hle : Hid ((lackP v (L.take k)).length ≤ 100000) := Nat.le_trans (List.length_filter_le _ _) (by rw [List.length_take]; omega)
        clear O3
        go_wp2_with (first
          | (refine wpList_load_mid rfl 37 _ (by rfl) b (o + k * 4) (by rfl) _ _ R3.out underPat rfl infoPat ?_)
          | (refine wpList_lit1 patSl PA3.out.len4 (by omega) (by rfl) ?_)
          | (at_builtin; refine wpList_pushF patSl own.out (patC p.1 A3 p.2.1.length c3 A4 p.2.2.length c4) PA3.out.len4 PA3.out.one hOB3.out (by have := hle.out; omega) (by have := hle.out; unfold maxLen; omega) (by rfl) (by rfl) (by rfl) ?_; intro v5 w5 own5 kep5 new5))
        have O5 := Lib.hid (OwnG.push own.out RI.out PA3.out own5 kep5 hG.out)
        rw [← N.out] at O5
        have B5 := Lib.hid (B3.out.trans ((kep5.below (B := w2.heap.size) (fun k e => (own.out.lt k e).1) B3.out.size)))
        clear own5 kep5 new5
        go_roundw
        case rel => exact ⟨k + 1, by omega, by go_num, O5.out, B5.out⟩
        case measure => simp [intOf]; omega
      · have N : Hid (lackP v (L.take (k + 1)) = lackP v (L.take k)) := by rw [Hid, lackP_snoc hp, if_pos hh]
        rw [hh] at HP
        clear hh hp
        go_upto_region 5 with fail
        clear q1
        refine wp_region_ext mixedS (by kernel_rfl) ?_
        repeat (first
          | (refine wpQuiet_load_mid (rangeAt_ext RP.out hbl.out) underPid rfl infoPid rfl rfl ?_; simp only [List.set_cons_succ, List.set_cons_zero])
          | (refine wpQuiet_load_mid (rangeAt_ext RV.out gvl.out) under64 rfl (info64' HV.out) rfl rfl ?_; simp only [List.set_cons_succ, List.set_cons_zero])
          | go_big_quiet_step ((go_at_call 45; exact ext_call (HP.out _))))
        refine wpQuiet_nil ?_
        rintro _ ⟨z, rfl⟩
        have B3 := Lib.hid (B.out.trans (z.h.mono B.out.size))
        have O3 := Lib.hid (O.out.ext z.h)
        rw [← N.out] at O3
        generalize z.w = w3 at *
        clear O PA R RP B hOB q1'
        go_wp2_with fail
        go_roundw
        case rel => exact ⟨k + 1, by omega, by go_num, O3.out, B3.out⟩
        case measure => simp [intOf]; omega
    · have hlk : ¬ ((k : Int) < (L.length : Int)) := by omega
      have eL : L.take k = L := List.take_of_length_le (by omega)
      rw [eL] at O
      obtain ⟨A5, c5, rfl, PT⟩ := O.out.pats (Nat.le_refl _)
      have PT := Lib.hid PT
      have hle : Hid ((lackP v L).length ≤ L.length) := List.length_filter_le _ _
      have FX := Lib.hid (fun u : World => subI L.length (lackP v L).length hle.out hm u)
      have K2Q := Lib.hid (K2.out.ext B.out)
      have BW := Lib.hid (B0'.out.trans (B.out.mono B0'.out.size))
      clear eL O
      generalize hRL : (lackP v L) = M at *
      go_upto_region 7 with fail
      clear q1
      refine wp_region_held (S := fun w' => Kept (fun k => k = gr) wr.drew w') mixedS ?_
      change wpAnyH _ _ _ _ _ _ _ _ wr.drew
      have D6 := (Below.refl wr.heap.size wr).drew
      have B9 : Hid (Kept (fun k => k = gr) wr.drew wr.drew) := Kept.refl _ _
      have KQ := Lib.hid (KQ.out.ext D6)
      have K2Q := Lib.hid (K2Q.out.ext D6)
      have PT := Lib.hid (PT.out.ext D6)
      have BW := Lib.hid (BW.out.trans (D6.mono BW.out.size))
      have hgr8 : Hid (gr < wr.drew.heap.size) := K2Q.out.lt
      clear D6
      generalize wr.drew = w8 at *
      have HC0 : Hid (∀ w', Kept (fun k => k = gr) w8 w' → w'.cell? ⟨gp, 0, none⟩ = some (.int .i64 most)) := fun w' h => (h.blk KQ.out hgn.out).cell 0
      have HC1 : Hid (∀ w', Kept (fun k => k = gr) w8 w' → w'.cell? ⟨gp, 1, none⟩ = some (.slice A L.length c)) := fun w' h => (h.blk KQ.out hgn.out).cell 1
      simp only [List.size_toArray, List.length_cons, List.length_nil]
      refine takeV (i := 0) (d := 32) (v := .pointer (some ⟨gp, 0, none⟩)) rfl (by kernel_rfl) (by kernel_rfl) (by kernel_rfl) (fun _ _ _ h => h) rfl (fun w' _ => exField rfl (fieldRp0 gp w')) B9.out ?_
      simp only [Act.put, List.setIfInBounds_toArray, List.set_cons_zero, List.set_cons_succ]
      refine takeV (i := 1) (d := 33) (v := .int .i64 most) rfl (by kernel_rfl) (by kernel_rfl) (by kernel_rfl) (fun _ _ _ h => h) rfl (fun w' h => exLoad rfl (loadIntC gp 0 w' most (HC0.out w' h))) B9.out ?_
      simp only [Act.put, List.setIfInBounds_toArray, List.set_cons_zero, List.set_cons_succ]
      refine takeV (i := 2) (d := 34) (v := .slice A5 M.length c5) rfl (by kernel_rfl) (by kernel_rfl) (by kernel_rfl) (fun _ _ _ h => h) rfl (fun _ _ => exMove (v := .slice A5 M.length c5) rfl) B9.out ?_
      simp only [Act.put, List.setIfInBounds_toArray, List.set_cons_zero, List.set_cons_succ]
      refine takeV (i := 3) (d := 35) (v := .agg (rpV most A5 M.length c5)) rfl (by kernel_rfl) (by kernel_rfl) (by kernel_rfl) (fun _ _ _ h => h) rfl (fun w' _ => exBuild (vs := #[(0, .int .i64 most), (1, .slice A5 M.length c5)]) (by simp [Act.eval]) (buildRp2 most A5 M.length c5 w')) B9.out ?_
      simp only [Act.put, List.setIfInBounds_toArray, List.set_cons_zero, List.set_cons_succ]
      refine takeV (i := 4) (d := 36) (v := .pointer (some ⟨gp, 1, none⟩)) rfl (by kernel_rfl) (by kernel_rfl) (by kernel_rfl) (fun _ _ _ h => h) rfl (fun w' _ => exField rfl (fieldRp1 gp w')) B9.out ?_
      simp only [Act.put, List.setIfInBounds_toArray, List.set_cons_zero, List.set_cons_succ]
      refine takeV (i := 5) (d := 37) (v := .slice A L.length c) rfl (by kernel_rfl) (by kernel_rfl) (by kernel_rfl) (fun _ _ _ h => h) rfl (fun w' h => exLoad rfl (loadPats gp 1 w' _ _ _ (HC1.out w' h))) B9.out ?_
      simp only [Act.put, List.setIfInBounds_toArray, List.set_cons_zero, List.set_cons_succ]
      refine takeV (i := 6) (d := 38) (v := .int .i64 ((L.length : Nat) : Int)) rfl (by kernel_rfl) (by kernel_rfl) (by kernel_rfl) (fun _ _ _ h => h) rfl (fun _ _ => exLen Tryz.underlying27 rfl) B9.out ?_
      simp only [Act.put, List.setIfInBounds_toArray, List.set_cons_zero, List.set_cons_succ]
      refine takeV (i := 7) (d := 39) (v := .slice A5 M.length c5) rfl (by kernel_rfl) (by kernel_rfl) (by kernel_rfl) (fun _ _ _ h => h) rfl (fun _ _ => exMove (v := .slice A5 M.length c5) rfl) B9.out ?_
      simp only [Act.put, List.setIfInBounds_toArray, List.set_cons_zero, List.set_cons_succ]
      refine takeV (i := 8) (d := 40) (v := .int .i64 ((M.length : Nat) : Int)) rfl (by kernel_rfl) (by kernel_rfl) (by kernel_rfl) (fun _ _ _ h => h) rfl (fun _ _ => exLen Tryz.underlying27 rfl) B9.out ?_
      simp only [Act.put, List.setIfInBounds_toArray, List.set_cons_zero, List.set_cons_succ]
      refine takeV (i := 9) (d := 41) (v := .int .i64 ((L.length : Int) - (M.length : Int))) rfl (by kernel_rfl) (by kernel_rfl) (by kernel_rfl) (fun _ _ _ h => h) rfl (fun w' _ => exBin rfl rfl (by rfl) (FX.out w')) B9.out ?_
      simp only [Act.put, List.setIfInBounds_toArray, List.set_cons_zero, List.set_cons_succ]
      refine wpAnyH_all (rs := [10]) (by kernel_rfl) (by simp) ?_
      intro i hi
      simp only [List.mem_cons, List.not_mem_nil, or_false] at hi
      subst hi
      refine wpOp_of rfl rfl (wp_stored (cs := (rpV most A5 M.length c5)) rfl rfl K2Q.out infoRp rfl rpV_one ?_)
      refine ⟨Kept.setRow (F := fun k => k = gr) B9.out (.inl rfl) _, ?_⟩
      have KR := Lib.hid (K2Q.out.row (rpV most A5 M.length c5))
      have BE := Lib.hid (below_setRow BW.out hgr.out (rpV most A5 M.length c5))
      have PT : Hid (PatsIn (w8.setRow gr (rpV most A5 M.length c5)) (fun k => G k ∨ w.heap.size ≤ k) _ _ _) := (PT.out.stay ⟨by simp, fun k _ hg => setRow_other _ _ _ _ (hg.elim (hgG.out k) (fun hg => by have := hgrl.out; omega))⟩).mono fun k e => e.imp id (fun e => Nat.le_trans B0'.out.size e)
      have B12 := Lib.hid (Kept.setRow (F := fun k => k = gr) B9.out (.inl rfl) (rpV most A5 M.length c5))
      clear BW B9
      generalize (w8.setRow gr (rpV most A5 M.length c5)) = w10 at *
      refine takeV (i := 11) (d := 5) (v := .int .i64 ((L.length : Int) - (M.length : Int))) rfl (by kernel_rfl) (by kernel_rfl) (by kernel_rfl) (fun _ _ _ h => h) rfl (fun _ _ => exAssign (v := .int .i64 ((L.length : Int) - (M.length : Int))) rfl) B12.out ?_
      simp only [Act.put, List.setIfInBounds_toArray, List.set_cons_zero, List.set_cons_succ]
      refine wpAnyH_done (by kernel_rfl) ?_ _
      go_wp2_with fail
      refine bodyPost_ret (results_row_tmp rfl _ _ gr _ (rpV most A5 M.length c5) _ rfl KR.out underRp rfl infoRp) rfl ?_
      subst hRL
      exact ⟨A5, c5, rfl, PT.out, BE.out⟩
end Go.Proofs.YtnhbbggpgieipaaGreat

/- The document's pool: a patch that is put: walked. -/
namespace Go.Proofs.YtnhbbggpgieipaaGreat
open Go.RowKit

theorem sign_lt {a b : Int} (h : a < b) : signV a b < 0 := by unfold signV; split <;> (try split) <;> omega
theorem sign_nlt {a b : Int} (h : ¬ a < b) : ¬ signV a b < 0 := by unfold signV; split <;> (try split) <;> omega
theorem sign_gt {a b : Int} (h : b < a) : 0 < signV a b := by unfold signV; split <;> (try split) <;> omega
theorem sign_ngt {a b : Int} (h : ¬ b < a) : ¬ 0 < signV a b := by unfold signV; split <;> (try split) <;> omega
def loL (L : List PatV) (p : PatV) : List PatV := L.filter fun a => decide (keyP a.1 < keyP p.1)
def hiL (L : List PatV) (p : PatV) : List PatV := L.filter fun a => decide (keyP p.1 < keyP a.1)
theorem loL_Y {L : List PatV} {k : Nat} {x p : PatV} (h : L[k]? = some x) (hc : keyP x.1 < keyP p.1) : loL (L.take (k + 1)) p = loL (L.take k) p ++ [x] := by
  unfold loL; rw [take_snoc' h, List.filter_append]; simp [hc]
theorem loL_N {L : List PatV} {k : Nat} {x p : PatV} (h : L[k]? = some x) (hc : ¬ keyP x.1 < keyP p.1) : loL (L.take (k + 1)) p = loL (L.take k) p := by
  unfold loL; rw [take_snoc' h, List.filter_append]; simp [hc]
theorem hiL_Y {L : List PatV} {k : Nat} {x p : PatV} (h : L[k]? = some x) (hc : keyP p.1 < keyP x.1) : hiL (L.take (k + 1)) p = hiL (L.take k) p ++ [x] := by
  unfold hiL; rw [take_snoc' h, List.filter_append]; simp [hc]
theorem hiL_N {L : List PatV} {k : Nat} {x p : PatV} (h : L[k]? = some x) (hc : ¬ keyP p.1 < keyP x.1) : hiL (L.take (k + 1)) p = hiL (L.take k) p := by
  unfold hiL; rw [take_snoc' h, List.filter_append]; simp [hc]
theorem loL_le (L : List PatV) (p : PatV) (k : Nat) : (loL (L.take k) p).length ≤ L.length := Nat.le_trans (List.length_filter_le _ _) (by rw [List.length_take]; omega)
theorem hiL_le (L : List PatV) (p : PatV) (k : Nat) : (hiL (L.take k) p).length ≤ L.length := Nat.le_trans (List.length_filter_le _ _) (by rw [List.length_take]; omega)
theorem insP_lohi (L : List PatV) (p : PatV) : loL L p ++ [p] ++ hiL L p = insP L p := by unfold loL hiL insP; simp
theorem retRPl_no {w w4 : World} {G : Nat → Prop} {most : Int} {L : List PatV} {p : PatV} {A : Option Addr} {c gr n : Nat} {cs : Array Value} (hI : PatsIn w G A L.length L) (hb : Below w.heap.size w w4) (hG : ∀ k, G k → k ≠ gr) (hgr : w.heap.size ≤ gr) (he : polE most L p = n) (h0 : n ≠ 0) :
    RetRPl w G most (polL most L p) (.int .i64 ((polE most L p : Nat) : Int)) (.returned (.tuple #[.agg (rpV most A L.length c), .int .i64 ((n : Nat) : Int)])) (w4.setRow gr cs) := by
  have e : polL most L p = L := by unfold polL; rw [if_neg (by rw [he]; exact h0)]
  rw [e, he]
  exact ⟨A, c, rfl, ((hI.ext hb).stay ⟨by simp, fun k _ hg => setRow_other _ _ _ _ (hG k hg)⟩).mono fun k e => .inl e, below_setRow hb hgr _⟩
set_option maxRecDepth 100000 in
set_option maxHeartbeats 8000000 in
theorem rputPl_any (L : List PatV) (most : Int) (p : PatV) (w : World) (G : Nat → Prop) (hG : ∀ k, G k → k < w.heap.size) (A : Option Addr) (c : Nat) (h : PatsIn w G A L.length L) (cs : List Value) (hp : PatIn w G cs p) (hm : L.length ≤ 10000) :
    Calls Tryz.prog 9 #[.agg (rpV most A L.length c), .agg cs.toArray] w (RetRPl w G most (polL most L p) (.int .i64 ((polE most L p : Nat) : Int))) := by
  have H0 := Lib.hid h
  have HPAT := Lib.hid hp
  obtain ⟨⟨A1, c1, A2, c2, rfl, _, _, _, _⟩, _, _⟩ := hp
  have K0 : Hid (Blk (((w.alloc (.cells (rpV most A L.length c) 29)).alloc (.cells (patC p.1 A1 p.2.1.length c1 A2 p.2.2.length c2).toArray 37)).alloc (.cells #[.int .i64 0, .slice none 0 0] 29)) w.heap.size 29 (rpV most A L.length c)) := ((Blk.new _ _ _).alloc _).alloc _
  have K1 : Hid (Blk (((w.alloc (.cells (rpV most A L.length c) 29)).alloc (.cells (patC p.1 A1 p.2.1.length c1 A2 p.2.2.length c2).toArray 37)).alloc (.cells #[.int .i64 0, .slice none 0 0] 29)) (w.heap.size + 1) 37 (patC p.1 A1 p.2.1.length c1 A2 p.2.2.length c2).toArray) := (Blk.newAt (by simp) _ _).alloc _
  have K2 : Hid (Blk (((w.alloc (.cells (rpV most A L.length c) 29)).alloc (.cells (patC p.1 A1 p.2.1.length c1 A2 p.2.2.length c2).toArray 37)).alloc (.cells #[.int .i64 0, .slice none 0 0] 29)) (w.heap.size + 1 + 1) 29 #[.int .i64 0, .slice none 0 0]) := Blk.newAt (by simp) _ _
  have B0 : Hid (Below w.heap.size w (((w.alloc (.cells (rpV most A L.length c) 29)).alloc (.cells (patC p.1 A1 p.2.1.length c1 A2 p.2.2.length c2).toArray 37)).alloc (.cells #[.int .i64 0, .slice none 0 0] 29))) := (((Below.refl _ _).alloc (Nat.le_refl _) _).alloc (by simp) _).alloc (by simp; omega) _
  have hgr : Hid (w.heap.size ≤ w.heap.size + 1 + 1) := by rw [Hid]; omega
  have hgG : Hid (∀ k, G k → k ≠ w.heap.size + 1 + 1) := fun k e c => by have := hG k e; omega
  have hG0 := Lib.hid hG
  clear h
  go_enter Tryz.func9, Tryz.ntmps9
  go_upto_region 1 with (refine wpList_alloced (allocRp _) ?_)
  generalize (((w.alloc (.cells (rpV most A L.length c) 29)).alloc (.cells (patC p.1 A1 p.2.1.length c1 A2 p.2.2.length c2).toArray 37)).alloc (.cells #[.int .i64 0, .slice none 0 0] 29)) = w2 at *
  generalize w.heap.size + 1 + 1 = gr at *
  generalize w.heap.size + 1 = g1 at *
  obtain ⟨gp, hgp⟩ : ∃ gp, gp = w.heap.size := ⟨_, rfl⟩
  rw [← hgp] at K0 ⊢
  clear hgp
  have HG := Lib.hid (rgood18_any p w2 _ (HPAT.out.ext B0.out).at_)
  have hm1 : (L.length : Int) ≤ 9223372036854775807 := by omega
  cases hg : patB p
  · rw [hg] at HG
    have N := Lib.hid (polE_1 (room := most) (L := L) hg)
    clear hg
    go_wp2_with (refine wpList_load_row rfl 37 _ (by rfl) g1 (by rfl) _ _ _ _ K1.out underPat rfl infoPat ?_)
    refine HG.out.mono ?_
    rintro e w3 ⟨rfl, b3⟩
    have B3 := Lib.hid (B0.out.trans (b3.mono B0.out.size))
    have K0 := Lib.hid (K0.out.ext b3)
    have K2 := Lib.hid (K2.out.ext b3)
    clear b3 HG
    go_wp2_with (first
      | (refine wpList_load_row rfl 29 _ (by rfl) gp (by rfl) _ _ _ _ K0.out underRp rfl infoRp ?_)
      | (refine wpList_store_row rfl 29 _ _ (by rfl) gr (rpV most A L.length c) (by rfl) (by rfl) _ _ K2.out infoRp rfl rpV_one ?_))
    refine bodyPost_ret (results_row_tmp rfl _ _ gr _ (rpV most A L.length c) _ rfl (K2.out.row _) underRp rfl infoRp) rfl ?_
    exact retRPl_no H0.out B3.out hgG.out hgr.out N.out (by decide)
  · rw [hg] at HG
    have hg := Lib.hid hg
    go_wp2_with (refine wpList_load_row rfl 37 _ (by rfl) g1 (by rfl) _ _ _ _ K1.out underPat rfl infoPat ?_)
    refine HG.out.mono ?_
    rintro e w3 ⟨rfl, b3⟩
    have B3 := Lib.hid (B0.out.trans (b3.mono B0.out.size))
    have K0 := Lib.hid (K0.out.ext b3)
    have K1 := Lib.hid (K1.out.ext b3)
    have K2 := Lib.hid (K2.out.ext b3)
    clear b3 HG B0
    have q1 : w3.cell? ⟨gp, 1, none⟩ = some (.slice A L.length c) := K0.out.cell 1
    have RD := Lib.hid (patC_pid K1.out)
    have HGT := Lib.hid (rget31_any L p.1 w3 G (fun k e => Nat.lt_of_lt_of_le (hG0.out k e) B3.out.size) A L.length c (H0.out.ext B3.out) (by unfold maxLen; omega))
    cases hf : findP L p.1 with
    | some q =>
      rw [hf, getV_some hf] at HGT
      have hf := Lib.hid hf
      go_wp2_with (refine wpList_load_mid rfl 33 _ (by rfl) g1 0 (by rfl) _ _ RD.out underPid rfl infoPid ?_)
      refine HGT.out.mono ?_
      rintro e w4 ⟨cq, rfl, pq, b4⟩
      have PQ := Lib.hid pq
      obtain ⟨⟨A3, c3, A4, c4, rfl, _, _, _, _⟩, _, _⟩ := PQ.out
      have M : Hid (Below w4.heap.size w4 ((w4.alloc (.cells #[.int .u8 0, .int .u16 0, .slice none 0 0, .slice none 0 0] 37)).setRow w4.heap.size (patC q.1 A3 q.2.1.length c3 A4 q.2.2.length c4).toArray)) := below_setRow ((Below.refl _ _).alloc (Nat.le_refl _) _) (Nat.le_refl _) _
      have K4 : Hid (Blk ((w4.alloc (.cells #[.int .u8 0, .int .u16 0, .slice none 0 0, .slice none 0 0] 37)).setRow w4.heap.size (patC q.1 A3 q.2.1.length c3 A4 q.2.2.length c4).toArray) w4.heap.size 37 (patC q.1 A3 q.2.1.length c3 A4 q.2.2.length c4).toArray) := (Blk.new _ _ _).row _
      have BD := Lib.hid (b4.trans (M.out.mono b4.size))
      clear q1
      go_upto_region 4 with (first
        | (refine wpList_alloced (allocPat _) ?_)
        | (refine wpList_store_row rfl 37 _ _ (by rfl) w4.heap.size (patC q.1 A3 q.2.1.length c3 A4 q.2.2.length c4).toArray (by rfl) (by rfl) _ _ (Blk.new _ _ _) infoPat rfl patC_one ?_))
      have B5 := Lib.hid (B3.out.trans (BD.out.mono B3.out.size))
      have K0 := Lib.hid (K0.out.ext BD.out)
      have K1 := Lib.hid (K1.out.ext BD.out)
      have K2 := Lib.hid (K2.out.ext BD.out)
      have PQ := Lib.hid (PQ.out.ext M.out)
      clear pq b4 HGT BD M RD
      generalize ((w4.alloc (.cells #[.int .u8 0, .int .u16 0, .slice none 0 0, .slice none 0 0] 37)).setRow w4.heap.size (patC q.1 A3 q.2.1.length c3 A4 q.2.2.length c4).toArray) = w5 at *
      generalize w4.heap.size = g4 at *
      have HS := Lib.hid (rpsame q p w5 _ _ PQ.out.at_ (HPAT.out.ext B5.out).at_)
      by_cases hqp : q = p
      · have N := Lib.hid (polE_7 (room := most) hg.out hf.out hqp)
        rw [decide_eq_true hqp] at HS
        clear hqp PQ
        go_wp2_with (first
          | (refine wpList_load_rowG (by rfl) 37 _ (by rfl) g4 (by rfl) _ _ _ _ K4.out underPat rfl infoPat ?_)
          | (refine wpList_load_rowG (by rfl) 37 _ (by rfl) g1 (by rfl) _ _ _ _ K1.out underPat rfl infoPat ?_))
        refine HS.out.mono ?_
        rintro e w6 ⟨rfl, b6⟩
        have B6 := Lib.hid (B5.out.trans (b6.mono B5.out.size))
        have K0 := Lib.hid (K0.out.ext b6)
        have K2 := Lib.hid (K2.out.ext b6)
        clear b6 HS
        go_wp2_with (first
          | (refine wpList_load_row rfl 29 _ (by rfl) gp (by rfl) _ _ _ _ K0.out underRp rfl infoRp ?_)
          | (refine wpList_store_row rfl 29 _ _ (by rfl) gr (rpV most A L.length c) (by rfl) (by rfl) _ _ K2.out infoRp rfl rpV_one ?_))
        refine bodyPost_ret (results_row_tmp rfl _ _ gr _ (rpV most A L.length c) _ rfl (K2.out.row _) underRp rfl infoRp) rfl ?_
        exact retRPl_no H0.out B6.out hgG.out hgr.out N.out (by decide)
      · have N := Lib.hid (polE_8 (room := most) hg.out hf.out hqp)
        rw [decide_eq_false hqp] at HS
        clear hqp PQ
        go_wp2_with (first
          | (refine wpList_load_rowG (by rfl) 37 _ (by rfl) g4 (by rfl) _ _ _ _ K4.out underPat rfl infoPat ?_)
          | (refine wpList_load_rowG (by rfl) 37 _ (by rfl) g1 (by rfl) _ _ _ _ K1.out underPat rfl infoPat ?_))
        refine HS.out.mono ?_
        rintro e w6 ⟨rfl, b6⟩
        have B6 := Lib.hid (B5.out.trans (b6.mono B5.out.size))
        have K0 := Lib.hid (K0.out.ext b6)
        have K2 := Lib.hid (K2.out.ext b6)
        clear b6 HS
        go_wp2_with (first
          | (refine wpList_load_row rfl 29 _ (by rfl) gp (by rfl) _ _ _ _ K0.out underRp rfl infoRp ?_)
          | (refine wpList_store_row rfl 29 _ _ (by rfl) gr (rpV most A L.length c) (by rfl) (by rfl) _ _ K2.out infoRp rfl rpV_one ?_))
        refine bodyPost_ret (results_row_tmp rfl _ _ gr _ (rpV most A L.length c) _ rfl (K2.out.row _) underRp rfl infoRp) rfl ?_
        exact retRPl_no H0.out B6.out hgG.out hgr.out N.out (by decide)
    | none =>
      rw [hf, getV_none hf] at HGT
      have hf := Lib.hid hf
      go_wp2_with (refine wpList_load_mid rfl 33 _ (by rfl) g1 0 (by rfl) _ _ RD.out underPid rfl infoPid ?_)
      refine HGT.out.mono ?_
      rintro e w4 ⟨cq, rfl, pq, b4⟩
      obtain ⟨⟨A3, c3, A4, c4, rfl, _, _, _, _⟩, _, _⟩ := pq
      have M : Hid (Below w4.heap.size w4 ((w4.alloc (.cells #[.int .u8 0, .int .u16 0, .slice none 0 0, .slice none 0 0] 37)).setRow w4.heap.size (patC zeroPat.1 A3 zeroPat.2.1.length c3 A4 zeroPat.2.2.length c4).toArray)) := below_setRow ((Below.refl _ _).alloc (Nat.le_refl _) _) (Nat.le_refl _) _
      have BD := Lib.hid (b4.trans (M.out.mono b4.size))
      clear q1
      go_upto_region 8 with (first
        | (refine wpList_alloced (allocPat _) ?_)
        | (refine wpList_store_row rfl 37 _ _ (by rfl) w4.heap.size (patC zeroPat.1 A3 zeroPat.2.1.length c3 A4 zeroPat.2.2.length c4).toArray (by rfl) (by rfl) _ _ (Blk.new _ _ _) infoPat rfl patC_one ?_))
      have B5 := Lib.hid (B3.out.trans (BD.out.mono B3.out.size))
      have K0 := Lib.hid (K0.out.ext BD.out)
      have K1 := Lib.hid (K1.out.ext BD.out)
      have K2 := Lib.hid (K2.out.ext BD.out)
      clear b4 HGT BD M RD B3
      generalize ((w4.alloc (.cells #[.int .u8 0, .int .u16 0, .slice none 0 0, .slice none 0 0] 37)).setRow w4.heap.size (patC zeroPat.1 A3 zeroPat.2.1.length c3 A4 zeroPat.2.2.length c4).toArray) = w5 at *
      generalize w4.heap.size = g4 at *
      have q0 : w5.cell? ⟨gp, 0, none⟩ = some (.int .i64 most) := K0.out.cell 0
      have q1 : w5.cell? ⟨gp, 1, none⟩ = some (.slice A L.length c) := K0.out.cell 1
      by_cases hrm : most ≤ (L.length : Int)
      · have N := Lib.hid (polE_11 hg.out hf.out hrm)
        go_wp2_with (first
          | (refine wpList_load_row rfl 29 _ (by rfl) gp (by rfl) _ _ _ _ K0.out underRp rfl infoRp ?_)
          | (refine wpList_store_row rfl 29 _ _ (by rfl) gr (rpV most A L.length c) (by rfl) (by rfl) _ _ K2.out infoRp rfl rpV_one ?_))
        refine bodyPost_ret (results_row_tmp rfl _ _ gr _ (rpV most A L.length c) _ rfl (K2.out.row _) underRp rfl infoRp) rfl ?_
        exact retRPl_no H0.out B5.out hgG.out hgr.out N.out (by decide)
      · have N := Lib.hid (polE_0 hg.out hf.out hrm)
        have BS := Lib.hid (Below.refl w5.heap.size w5)
        have H5 := Lib.hid (H0.out.ext B5.out)
        have HP5 := Lib.hid (HPAT.out.ext B5.out)
        have hG5 := Lib.hid (fun k e => Nat.lt_of_lt_of_le (hG0.out k e) B5.out.size)
        have hgrl : Hid (gr < w5.heap.size) := K2.out.lt
        go_wp2_with fail
        clear q0 q1 hrm
        go_loopw [9, 8] (fun i s wr => ∃ k : Nat, k ≤ L.length ∧ i = .int .i64 k ∧ Hid (OwnG G w5.heap.size wr s (loL (L.take k) p)) ∧ Hid (Below w5.heap.size w5 wr)) (fun i _ _ => L.length - (intOf i).toNat)
        case atStart => exact ⟨0, by omega, rfl, OwnG.nil _ _ _, BS.out⟩
        case round =>
          clear BS
          obtain ⟨k, hk, rfl, O, B⟩ := hrel
          have hk0 : (0 : Int) ≤ (k : Int) := by omega
          have KQ := Lib.hid (K0.out.ext B.out)
          have q1 : wr.cell? ⟨gp, 1, none⟩ = some (.slice A L.length c) := KQ.out.cell 1
          by_cases hlt : k < L.length
          · have hlk : (k : Int) < (L.length : Int) := by omega
            obtain ⟨b, o, x, r, rfl, hb, hx, pa, R⟩ := (H5.out.ext B.out).pat_ hlt
            have PA := Lib.hid pa
            have R := Lib.hid R
            have hbl := Lib.hid hb
            have K1Q := Lib.hid (K1.out.ext B.out)
            have q1' : ∀ z : Ext wr, z.w.cell? ⟨gp, 1, none⟩ = some (.slice (some ⟨b, o, none⟩) L.length c) := fun z => (KQ.out.ext z.h).cell 1
            obtain ⟨⟨A3, c3, A4, c4, rfl, _, _, _, _⟩, _, _⟩ := PA.out
            have RP := Lib.hid (pid_range R.out)
            have RD := Lib.hid (patC_pid K1Q.out)
            have g1l : Hid (g1 < wr.heap.size) := K1Q.out.lt
            have hOB : Hid (w5.heap.size ≤ wr.heap.size) := B.out.size
            have HC := Lib.hid (fun u => rcmpP x.1 p.1 u)
            clear pa hb
            by_cases hc : keyP x.1 < keyP p.1
            · have N := Lib.hid (loL_Y hx hc)
              have hd : decide (signV (keyP x.1) (keyP p.1) < 0) = true := decide_eq_true (sign_lt hc)
              clear hc hx
              go_upto_region 14 with fail
              clear q1
              refine wp_region_ext mixedS (by kernel_rfl) ?_
              repeat (first
                | (refine wpQuiet_load_mid (rangeAt_ext RP.out hbl.out) underPid rfl infoPid rfl rfl ?_; simp only [List.set_cons_succ, List.set_cons_zero])
                | (refine wpQuiet_load_mid (rangeAt_ext RD.out g1l.out) underPid rfl infoPid rfl rfl ?_; simp only [List.set_cons_succ, List.set_cons_zero])
                | go_big_quiet_step ((go_at_call 41; exact ext_call (HC.out _))))
              refine wpQuiet_nil ?_
              rintro _ ⟨z, rfl⟩
              have q1 := q1' z
              have B3 := Lib.hid (B.out.trans (z.h.mono B.out.size))
              have PA3 := Lib.hid (PA.out.ext z.h)
              have R3 := Lib.hid (rangeAt_ext R.out hbl.out z.w ⟨z, rfl⟩)
              have hOB3 : Hid (w5.heap.size ≤ z.w.heap.size) := Nat.le_trans hOB.out z.h.size
              have O3 := Lib.hid (O.out.ext z.h)
              generalize z.w = w3 at *
              clear O PA R RP B hOB q1' hd
              obtain ⟨rows, own, RI⟩ := O3.out
              have own := Lib.hid own
              have RI := Lib.hid RI
              have hle : Hid ((loL (L.take k) p).length ≤ 100001) := Nat.le_trans (loL_le L p k) (by omega)
              clear O3
              go_wp2_with (first
                | (refine wpList_load_mid rfl 37 _ (by rfl) b (o + k * 4) (by rfl) _ _ R3.out underPat rfl infoPat ?_)
                | (refine wpList_lit1 patSl PA3.out.len4 (by omega) (by rfl) ?_)
                | (at_builtin; refine wpList_pushF patSl own.out (patC x.1 A3 x.2.1.length c3 A4 x.2.2.length c4) PA3.out.len4 PA3.out.one hOB3.out (by have := hle.out; omega) (by have := hle.out; unfold maxLen; omega) (by rfl) (by rfl) (by rfl) ?_; intro v5 w6 own5 kep5 new5))
              have O5 := Lib.hid (OwnG.push own.out RI.out PA3.out own5 kep5 hG5.out)
              rw [← N.out] at O5
              have B5 := Lib.hid (B3.out.trans ((kep5.below (B := w5.heap.size) (fun k e => (own.out.lt k e).1) B3.out.size)))
              clear own5 kep5 new5
              go_roundw
              case rel => exact ⟨k + 1, by omega, by go_num, O5.out, B5.out⟩
              case measure => simp [intOf]; omega
            · have N := Lib.hid (loL_N hx hc)
              have hd : decide (signV (keyP x.1) (keyP p.1) < 0) = false := decide_eq_false (sign_nlt hc)
              clear hc hx
              go_upto_region 14 with fail
              clear q1
              refine wp_region_ext mixedS (by kernel_rfl) ?_
              repeat (first
                | (refine wpQuiet_load_mid (rangeAt_ext RP.out hbl.out) underPid rfl infoPid rfl rfl ?_; simp only [List.set_cons_succ, List.set_cons_zero])
                | (refine wpQuiet_load_mid (rangeAt_ext RD.out g1l.out) underPid rfl infoPid rfl rfl ?_; simp only [List.set_cons_succ, List.set_cons_zero])
                | go_big_quiet_step ((go_at_call 41; exact ext_call (HC.out _))))
              refine wpQuiet_nil ?_
              rintro _ ⟨z, rfl⟩
              have B3 := Lib.hid (B.out.trans (z.h.mono B.out.size))
              have O3 := Lib.hid (O.out.ext z.h)
              rw [← N.out] at O3
              generalize z.w = w3 at *
              clear O PA R RP B hOB q1'
              go_wp2_with fail
              go_roundw
              case rel => exact ⟨k + 1, by omega, by go_num, O3.out, B3.out⟩
              case measure => simp [intOf]; omega
          · have hlk : ¬ ((k : Int) < (L.length : Int)) := by omega
            rw [List.take_of_length_le (by omega)] at O
            obtain ⟨rows, own, RI⟩ := O.out
            have own := Lib.hid own
            have RI := Lib.hid RI
            have hle : Hid ((loL L p).length ≤ L.length) := List.length_filter_le _ _
            have hOB : Hid (w5.heap.size ≤ wr.heap.size) := B.out.size
            have K1Q := Lib.hid (K1.out.ext B.out)
            have PP := Lib.hid (HP5.out.ext B.out)
            clear O
            go_wp2_with (first
              | (refine wpList_load_row rfl 37 _ (by rfl) g1 (by rfl) _ _ _ _ K1Q.out underPat rfl infoPat ?_)
              | (refine wpList_lit1 patSl PP.out.len4 (by omega) (by rfl) ?_)
              | (at_builtin; refine wpList_pushF patSl own.out (patC p.1 A1 p.2.1.length c1 A2 p.2.2.length c2) PP.out.len4 PP.out.one hOB.out (by have := hle.out; omega) (by have := hle.out; unfold maxLen; omega) (by rfl) (by rfl) (by rfl) ?_; intro v5 w6 own5 kep5 new5; clear q1; have B6 := Lib.hid (B.out.trans ((kep5.below (B := w5.heap.size) (fun k e => (own.out.lt k e).1) B.out.size))); have q1 : w6.cell? ⟨gp, 1, none⟩ = some (.slice A L.length c) := (K0.out.ext B6.out).cell 1))
            have O5 := Lib.hid (OwnG.push own.out RI.out PP.out own5 kep5 hG5.out)
            clear own5 kep5 new5 own RI B hOB K1Q PP q1 KQ
            have O5 : Hid (OwnG G w5.heap.size w6 v5 (loL L p ++ [p] ++ hiL (L.take 0) p)) := by
              rw [Hid, show hiL (L.take 0) p = [] by rw [List.take_zero]; rfl, List.append_nil]; exact O5.out
            go_loopw [10, 8] (fun i s wr => ∃ k : Nat, k ≤ L.length ∧ i = .int .i64 k ∧ Hid (OwnG G w5.heap.size wr s (loL L p ++ [p] ++ hiL (L.take k) p)) ∧ Hid (Below w5.heap.size w5 wr)) (fun i _ _ => L.length - (intOf i).toNat)
            case atStart => exact ⟨0, by omega, rfl, O5.out, B6.out⟩
            case round =>
              clear O5 B6
              obtain ⟨k, hk, rfl, O, B⟩ := hrel
              have hk0 : (0 : Int) ≤ (k : Int) := by omega
              have KQ := Lib.hid (K0.out.ext B.out)
              have q1 : wr.cell? ⟨gp, 1, none⟩ = some (.slice A L.length c) := KQ.out.cell 1
              by_cases hlt : k < L.length
              · have hlk : (k : Int) < (L.length : Int) := by omega
                obtain ⟨b, o, x, r, rfl, hb, hx, pa, R⟩ := (H5.out.ext B.out).pat_ hlt
                have PA := Lib.hid pa
                have R := Lib.hid R
                have hbl := Lib.hid hb
                have K1Q := Lib.hid (K1.out.ext B.out)
                have q1' : ∀ z : Ext wr, z.w.cell? ⟨gp, 1, none⟩ = some (.slice (some ⟨b, o, none⟩) L.length c) := fun z => (KQ.out.ext z.h).cell 1
                obtain ⟨⟨A3, c3, A4, c4, rfl, _, _, _, _⟩, _, _⟩ := PA.out
                have RP := Lib.hid (pid_range R.out)
                have RD := Lib.hid (patC_pid K1Q.out)
                have g1l : Hid (g1 < wr.heap.size) := K1Q.out.lt
                have hOB : Hid (w5.heap.size ≤ wr.heap.size) := B.out.size
                have HC := Lib.hid (fun u => rcmpP x.1 p.1 u)
                clear pa hb
                by_cases hc : keyP p.1 < keyP x.1
                · have N := Lib.hid (hiL_Y hx hc)
                  have hd : decide (0 < signV (keyP x.1) (keyP p.1)) = true := decide_eq_true (sign_gt hc)
                  clear hc hx
                  go_upto_region 20 with fail
                  clear q1
                  refine wp_region_ext mixedS (by kernel_rfl) ?_
                  repeat (first
                    | (refine wpQuiet_load_mid (rangeAt_ext RP.out hbl.out) underPid rfl infoPid rfl rfl ?_; simp only [List.set_cons_succ, List.set_cons_zero])
                    | (refine wpQuiet_load_mid (rangeAt_ext RD.out g1l.out) underPid rfl infoPid rfl rfl ?_; simp only [List.set_cons_succ, List.set_cons_zero])
                    | go_big_quiet_step ((go_at_call 41; exact ext_call (HC.out _))))
                  refine wpQuiet_nil ?_
                  rintro _ ⟨z, rfl⟩
                  have q1 := q1' z
                  have B3 := Lib.hid (B.out.trans (z.h.mono B.out.size))
                  have PA3 := Lib.hid (PA.out.ext z.h)
                  have R3 := Lib.hid (rangeAt_ext R.out hbl.out z.w ⟨z, rfl⟩)
                  have hOB3 : Hid (w5.heap.size ≤ z.w.heap.size) := Nat.le_trans hOB.out z.h.size
                  have O3 := Lib.hid (O.out.ext z.h)
                  generalize z.w = w3 at *
                  clear O PA R RP B hOB q1' hd
                  obtain ⟨rows, own, RI⟩ := O3.out
                  have own := Lib.hid own
                  have RI := Lib.hid RI
                  have hle : Hid ((loL L p ++ [p] ++ hiL (L.take k) p).length ≤ 100001) := by rw [Hid, List.length_append, List.length_append]; have := hiL_le L p k; have : (loL L p).length ≤ L.length := List.length_filter_le _ _; simp only [List.length_cons, List.length_nil]; omega
                  clear O3
                  go_wp2_with (first
                    | (refine wpList_load_mid rfl 37 _ (by rfl) b (o + k * 4) (by rfl) _ _ R3.out underPat rfl infoPat ?_)
                    | (refine wpList_lit1 patSl PA3.out.len4 (by omega) (by rfl) ?_)
                    | (at_builtin; refine wpList_pushF patSl own.out (patC x.1 A3 x.2.1.length c3 A4 x.2.2.length c4) PA3.out.len4 PA3.out.one hOB3.out (by have := hle.out; omega) (by have := hle.out; unfold maxLen; omega) (by rfl) (by rfl) (by rfl) ?_; intro v5 w6 own5 kep5 new5))
                  have O5 := Lib.hid (OwnG.push own.out RI.out PA3.out own5 kep5 hG5.out)
                  rw [List.append_assoc, ← N.out] at O5
                  have B5 := Lib.hid (B3.out.trans ((kep5.below (B := w5.heap.size) (fun k e => (own.out.lt k e).1) B3.out.size)))
                  clear own5 kep5 new5
                  go_roundw
                  case rel => exact ⟨k + 1, by omega, by go_num, O5.out, B5.out⟩
                  case measure => simp [intOf]; omega
                · have N := Lib.hid (hiL_N hx hc)
                  have hd : decide (0 < signV (keyP x.1) (keyP p.1)) = false := decide_eq_false (sign_ngt hc)
                  clear hc hx
                  go_upto_region 20 with fail
                  clear q1
                  refine wp_region_ext mixedS (by kernel_rfl) ?_
                  repeat (first
                    | (refine wpQuiet_load_mid (rangeAt_ext RP.out hbl.out) underPid rfl infoPid rfl rfl ?_; simp only [List.set_cons_succ, List.set_cons_zero])
                    | (refine wpQuiet_load_mid (rangeAt_ext RD.out g1l.out) underPid rfl infoPid rfl rfl ?_; simp only [List.set_cons_succ, List.set_cons_zero])
                    | go_big_quiet_step ((go_at_call 41; exact ext_call (HC.out _))))
                  refine wpQuiet_nil ?_
                  rintro _ ⟨z, rfl⟩
                  have B3 := Lib.hid (B.out.trans (z.h.mono B.out.size))
                  have O3 := Lib.hid (O.out.ext z.h)
                  rw [← N.out] at O3
                  generalize z.w = w3 at *
                  clear O PA R RP B hOB q1'
                  go_wp2_with fail
                  go_roundw
                  case rel => exact ⟨k + 1, by omega, by go_num, O3.out, B3.out⟩
                  case measure => simp [intOf]; omega
              · have hlk : ¬ ((k : Int) < (L.length : Int)) := by omega
                rw [List.take_of_length_le (by omega), insP_lohi] at O
                obtain ⟨A9, c9, rfl, PT⟩ := O.out.pats (Nat.le_refl _)
                have PT := Lib.hid PT
                have q0 : wr.cell? ⟨gp, 0, none⟩ = some (.int .i64 most) := KQ.out.cell 0
                have KR := Lib.hid (K2.out.ext B.out)
                have BW := Lib.hid (B5.out.trans (B.out.mono B5.out.size))
                clear O
                generalize hM : insP L p = M at *
                go_wp2_with (first
                  | (refine wpList_built (buildRp2 _ _ _ _ _) (by rfl) ?_)
                  | (refine wpList_store_row rfl 29 _ _ (by rfl) gr (rpV most A9 M.length c9) (by rfl) (by rfl) _ _ KR.out infoRp rfl rpV_one ?_))
                refine bodyPost_ret (results_row_tmp rfl _ _ gr _ (rpV most A9 M.length c9) _ rfl (KR.out.row _) underRp rfl infoRp) rfl ?_
                have e : polL most L p = M := by unfold polL; rw [if_pos N.out]; exact hM
                rw [e, N.out]
                exact ⟨A9, c9, rfl, (PT.out.stay ⟨by simp, fun k _ hg => setRow_other _ _ _ _ (hg.elim (hgG.out k) (fun hg => by have := hgrl.out; omega))⟩).mono fun k e => e.imp id (fun e => Nat.le_trans B5.out.size e), below_setRow BW.out hgr.out _⟩
end Go.Proofs.YtnhbbggpgieipaaGreat

/- Calls of a pool as they lie; are they few and small? Walked. -/
namespace Go.Proofs.YtnhbbggpgieipaaGreat
open Go.RowKit

/-- a call: its kind, a patch, a vector -/
abbrev ActV := Int × PatV × List Int
structure ActAt (w : World) (r : List Value) (a : ActV) : Prop where
  ex : ∃ rp, r = .int .u8 a.1 :: (rp ++ a.2.2.map (Value.int .u16)) ∧ PatAt w rp a.2.1
  kind : 0 ≤ a.1 ∧ a.1 < 256
  vec : VecOk a.2.2
theorem ActAt.len {w : World} {r : List Value} {a : ActV} (h : ActAt w r a) : r.length = 69 := by
  obtain ⟨rp, rfl, hp⟩ := h.ex
  simp [hp.len4, h.vec.len]
theorem ActAt.one {w : World} {r : List Value} {a : ActV} (h : ActAt w r a) : ∀ u ∈ r, u.oneCell' = true := by
  obtain ⟨rp, rfl, hp⟩ := h.ex
  intro u hu
  rcases List.mem_cons.1 hu with rfl | hu
  · rfl
  · rcases List.mem_append.1 hu with hu | hu
    · exact hp.one u hu
    · obtain ⟨x, _, rfl⟩ := List.mem_map.1 hu; rfl
def RowsA (w : World) (rows : List (List Value)) (l : List ActV) : Prop := rows.length = l.length ∧ ∀ (k : Nat) (r : List Value) (a : ActV), rows[k]? = some r → l[k]? = some a → ActAt w r a
structure ActsAt (w : World) (A : Option Addr) (n : Nat) (l : List ActV) : Prop where
  len : l.length = n
  ex : ∃ rows, RowsA w rows l ∧ Sl w w.heap.size 69 A n rows.flatten
theorem ActAt.ext {w w' : World} {r : List Value} {a : ActV} (h : ActAt w r a) (hb : Below w.heap.size w w') : ActAt w' r a := by
  obtain ⟨⟨rp, e, hp⟩, h2, h3⟩ := h
  exact ⟨⟨rp, e, hp.ext hb⟩, h2, h3⟩
theorem ActsAt.ext {w w' : World} {A : Option Addr} {n : Nat} {l : List ActV} (h : ActsAt w A n l) (hb : Below w.heap.size w w') : ActsAt w' A n l := by
  obtain ⟨rows, h1, h2⟩ := h.ex
  exact ⟨h.len, rows, ⟨h1.1, fun k r a e1 e2 => (h1.2 k r a e1 e2).ext hb⟩, (h2.below hb (Nat.le_refl _)).more hb.size⟩
theorem ActsAt.at_ {w : World} {A : Option Addr} {n : Nat} {l : List ActV} (h : ActsAt w A n l) {k : Nat} (hk : k < n) : ∃ b o a r, A = some ⟨b, o, none⟩ ∧ b < w.heap.size ∧ l[k]? = some a ∧ ActAt w r a ∧ w.rangeAt b (o + k * 69) r := by
  obtain ⟨rows, h1, h2⟩ := h.ex
  have hk1 : k < l.length := by rw [h.len]; exact hk
  have hk2 : k < rows.length := by rw [h1.1]; exact hk1
  have e : rows.flatten = rows.flatMap id := by simp [List.flatMap_def]
  have h4 : ∀ x ∈ rows, x.length = 69 := fun x hx => by
    obtain ⟨i, hi, rfl⟩ := List.getElem_of_mem hx
    exact (h1.2 i _ _ (List.getElem?_eq_getElem hi) (List.getElem?_eq_getElem (by rw [← h1.1]; exact hi))).len
  rw [e] at h2
  obtain ⟨b, o, rfl, hb, hr⟩ := h2.rowAt (by rw [h1.1, h.len]) (fun x hx => h4 x hx) hk2
  exact ⟨b, o, l[k], rows[k], rfl, hb, List.getElem?_eq_getElem hk1, h1.2 k _ _ (List.getElem?_eq_getElem hk2) (List.getElem?_eq_getElem hk1), hr⟩
def shAct : List Sh := .int .u8 :: (shPat ++ List.replicate 64 (.int .u16))
theorem oks_ints {w : World} {B : Nat} : ∀ (m : Nat) (cs : List Value), Sh.oks w B (List.replicate m (.int .u16)) cs → ∃ zs : List Int, cs = zs.map (Value.int .u16) ∧ zs.length = m ∧ ∀ z ∈ zs, (Lit.int .u16 z).wf = true
  | 0, [], _ => ⟨[], rfl, rfl, by simp⟩
  | 0, _ :: _, h => by have := Sh.oks_len h; simp at this
  | _ + 1, [], h => by have := Sh.oks_len h; simp at this
  | m + 1, c :: cs, h => by
    rw [List.replicate_succ, Sh.oks] at h
    obtain ⟨⟨z, rfl, hz⟩, h2⟩ := h
    obtain ⟨zs, rfl, h3, h4⟩ := oks_ints m cs h2
    exact ⟨z :: zs, rfl, by simp [h3], fun y hy => (List.mem_cons.1 hy).elim (fun e => e ▸ hz) (h4 y)⟩
theorem act_of {w : World} {cs : List Value} (h : Sh.oks w w.heap.size shAct cs) : ∃ a : ActV, ActAt w cs a := by
  have hlen := Sh.oks_len h
  have e0 : shAct.length = 69 := by decide
  match cs, h with
  | k :: a :: b :: d :: o :: vs, h =>
    unfold shAct at h
    rw [Sh.oks] at h
    obtain ⟨⟨z, rfl, hz⟩, h⟩ := h
    have h' : Sh.oks w w.heap.size shPat [a, b, d, o] ∧ Sh.oks w w.heap.size (List.replicate 64 (.int .u16)) vs := by
      unfold shPat at h ⊢
      simp only [List.cons_append, List.nil_append, Sh.oks] at h ⊢
      exact ⟨⟨h.1, h.2.1, h.2.2.1, h.2.2.2.1, trivial⟩, h.2.2.2.2⟩
    obtain ⟨p, hp⟩ := pat_of h'.1
    obtain ⟨zs, rfl, h3, h4⟩ := oks_ints 64 vs h'.2
    exact ⟨(z, p, zs), ⟨[a, b, d, o], rfl, hp⟩, u8_of hz, vecOk_of h3 h4⟩
theorem acts_rows {w : World} : ∀ rows : List (List Value), (∀ r ∈ rows, Sh.oks w w.heap.size shAct r) → ∃ l, RowsA w rows l
  | [], _ => ⟨[], rfl, fun _ _ _ h => by simp at h⟩
  | r :: rs, h => by
    obtain ⟨p, hp⟩ := act_of (h r (by simp))
    obtain ⟨l, h1, h2⟩ := acts_rows rs fun x hx => h x (by simp [hx])
    refine ⟨p :: l, by simp [h1], fun k => ?_⟩
    match k with
    | 0 =>
      intro r' p' e1 e2
      obtain rfl : r = r' := by simpa using e1
      obtain rfl : p = p' := by simpa using e2
      exact hp
    | k + 1 => intro r' p' e1 e2; exact h2 k r' p' (by simpa using e1) (by simpa using e2)
theorem acts_of {w : World} {A : Option Addr} {n : Nat} {rows : List (List Value)} (hl : rows.length = n) (ho : ∀ r ∈ rows, Sh.oks w w.heap.size shAct r) (hs : Sl w w.heap.size 69 A n rows.flatten) : ∃ l : List ActV, ActsAt w A n l := by
  obtain ⟨l, hr⟩ := acts_rows rows ho
  exact ⟨l, by rw [← hr.1, hl], rows, hr, hs⟩
theorem act_pat {w : World} {b o : Nat} {k : Int} {rp vs : List Value} (h : w.rangeAt b o (.int .u8 k :: (rp ++ vs))) : w.rangeAt b (o + 1) rp := fun j v hj => by
  have := h (j + 1) v (by rw [List.getElem?_cons_succ, List.getElem?_append_left (List.getElem?_eq_some_iff.1 hj).1]; exact hj)
  rw [Nat.add_assoc, Nat.add_comm 1 j]; exact this
theorem act_vec {w : World} {b o : Nat} {k : Int} {rp vs : List Value} (h : w.rangeAt b o (.int .u8 k :: (rp ++ vs))) (h4 : rp.length = 4) : w.rangeAt b (o + 5) vs := fun j v hj => by
  have := h (j + 5) v (by rw [show j + 5 = (j + 4) + 1 by omega, List.getElem?_cons_succ, List.getElem?_append_right (by omega), h4, Nat.add_sub_cancel]; exact hj)
  rw [Nat.add_assoc, Nat.add_comm 5 j]; exact this
def fewA (l : List ActV) : Bool := decide (l.length ≤ 40) && l.all fun a => fewsB [a.2.1] 1
theorem infoAct : (Tryz.prog.info? 41).map (·.size) = some 69 := by kernel_rfl
theorem underAct : Tryz.prog.underlying 41 = some (.struct (Tryz.prog.fieldsOf 41)) := by kernel_rfl
set_option maxRecDepth 100000 in
set_option maxHeartbeats 2000000 in
theorem few32_any (l : List ActV) (w : World) (A : Option Addr) (n c : Nat) (h : ActsAt w A n l) (hm : n ≤ maxLen) :
    Calls Tryz.prog 5 #[.slice A n c] w (RetB w (.bool (fewA l))) := by
  unfold maxLen at hm
  have H := Lib.hid h
  have hl := h.len
  clear h
  go_enter Tryz.func5, Tryz.ntmps5
  by_cases d1 : (40 : Int) < (n : Int)
  · have F : Hid (fewA l = false) := by
      unfold fewA
      rw [decide_eq_false (by omega)]; rfl
    go_wp2
    go_ret
    exact ⟨ret_bool F.out.symm, Below.refl _ _⟩
  · have F : Hid (l.all (fun a => fewsB [a.2.1] 1) = fewA l) := by
      unfold fewA
      rw [decide_eq_true (by omega)]; rfl
    have hm1 : (n : Int) ≤ 9223372036854775807 := by omega
    go_wp2_with fail
    go_loopw [3] (fun i wr => ∃ k : Nat, k ≤ n ∧ i = .int .i64 k ∧ Hid ((l.take k).all (fun a => fewsB [a.2.1] 1) = true) ∧ Hid (Below w.heap.size w wr)) (fun i _ => n - (intOf i).toNat)
    case atStart => exact ⟨0, by omega, rfl, by rw [List.take_zero]; rfl, Below.refl _ _⟩
    case round =>
      obtain ⟨k, hk, rfl, T, B⟩ := hrel
      have hk0 : (0 : Int) ≤ (k : Int) := by omega
      by_cases hlt : k < n
      · have hlk : (k : Int) < (n : Int) := by omega
        obtain ⟨b, o, a, r, rfl, hb, ha, pa, R⟩ := (H.out.ext B.out).at_ hlt
        obtain ⟨rp, rfl, hp⟩ := pa.ex
        have RP := Lib.hid (act_pat R)
        have PP := Lib.hid hp
        have hi4 : (Tryz.prog.info? 37).map (·.size) = some rp.length := by rw [hp.len4]; exact infoPat
        have hl4 : rp.length = 4 := hp.len4
        have PS := Lib.hid (pats_one hp)
        have M : Hid (Below wr.heap.size wr (wr.alloc (.cells rp.toArray 37))) := below_new _ _
        have HF := Lib.hid (few20_any [a.2.1] (wr.alloc (.cells rp.toArray 37)) _ 1 1 1 PS.out (by decide))
        clear pa hp R hb PS
        cases hf : fewsB [a.2.1] 1
        · have N : Hid (l.all (fun a => fewsB [a.2.1] 1) = false) := allL_false ha hf
          rw [fewsN_false hf] at HF
          clear T ha hf
          go_wp2_with (first
            | (refine wpList_load_mid rfl 37 _ (by rfl) b (o + k * 69 + 1) (by rfl) _ _ RP.out underPat rfl hi4 ?_)
            | (refine wpList_lit1 patSl (cs := rp) hl4 (by omega) (by rfl) ?_))
          refine HF.out.mono ?_
          rintro e w3 ⟨rfl, b3⟩
          have B3 := Lib.hid (B.out.trans ((M.out.trans (b3.mono M.out.size)).mono B.out.size))
          clear b3 HF
          go_wp2
          go_ret
          exact ⟨ret_bool (by rw [← F.out, N.out]), B3.out⟩
        · have N := Lib.hid (allL_snoc (f := fun a : ActV => fewsB [a.2.1] 1) ha T.out hf)
          rw [fewsN_true hf] at HF
          clear T ha hf
          go_wp2_with (first
            | (refine wpList_load_mid rfl 37 _ (by rfl) b (o + k * 69 + 1) (by rfl) _ _ RP.out underPat rfl hi4 ?_)
            | (refine wpList_lit1 patSl (cs := rp) hl4 (by omega) (by rfl) ?_))
          refine HF.out.mono ?_
          rintro e w3 ⟨rfl, b3⟩
          have B3 := Lib.hid (B.out.trans ((M.out.trans (b3.mono M.out.size)).mono B.out.size))
          clear b3 HF RP PP M
          go_wp2_with fail
          go_roundw
          case rel => exact ⟨k + 1, by omega, by go_num, N.out, B3.out⟩
          case measure => simp [intOf]; omega
      · have hlk : ¬ ((k : Int) < (n : Int)) := by omega
        rw [List.take_of_length_le (by omega)] at T
        go_wp2
        go_ret
        exact ⟨ret_bool (by rw [← F.out, T.out]), B.out⟩
end Go.Proofs.YtnhbbggpgieipaaGreat
