/- A vector that is written: walked; texts up to 100000 bytes. -/
import Derived.Test.YtdafiipedlglpaaGreatDoorMsgd
import Derived.Test.YtdafiipedlglpaaGreatDoorPcds
namespace Go.Proofs.YtdafiipedlglpaaGreatDoor
open Go.RowKit

set_option maxRecDepth 100000 in
set_option maxHeartbeats 2000000 in
theorem wrTextM_any {w : World} {F : Nat → Prop} {g : Nat} {l : List UInt8} (h : WrAt w F g l) (s : ByteArray) (hl : l.length ≤ 900000) (hs : s.size ≤ 100000) :
    Calls Tryz.prog 80 #[.pointer (some ⟨g, 0, none⟩), .string s] w (WrRet w F g (l ++ (vbytes s.size ++ s.data.toList))) := by
  have H := Lib.hid h
  have hs0 : (0 : Int) ≤ (s.size : Int) := by omega
  have hs1 : (s.size : Int) ≤ 100000 := by omega
  have B0 : Hid (Below w.heap.size w (w.alloc (.cells #[.int .u64 (s.size : Int)] 25))) := below_new _ _
  have S0 : Hid (Sl (w.alloc (.cells #[.int .u64 (s.size : Int)] 25)) (w.alloc (.cells #[.int .u64 (s.size : Int)] 25)).heap.size 1 (some ⟨w.heap.size, 0, none⟩) 1 (encU [s.size])) := sl_fresh w _ 25 1 1 (encU [s.size]) rfl rfl
  have HN := Lib.hid (wrNum_any (H.out.ext B0.out) [s.size] (fun n hn => by rw [List.mem_singleton.1 hn]; omega) (some ⟨w.heap.size, 0, none⟩) 1 1 S0.out (fun b o e hf => by injection e with e; injection e with e _ _; have := H.out.lt b hf; omega) rfl (by omega) (by omega))
  clear h S0
  go_enter Tryz.func80, Tryz.ntmps80
  go_wp2_with fail
  refine HN.out.mono ?_
  rintro e w2 ⟨rfl, kp, F2, hW, hF⟩
  have KP : Hid (Kept F w w2) := (Kept.of_below B0.out).trans kp fun x e => .inl e
  have HF : Hid (∀ q, F2 q → F q ∨ w.heap.size ≤ q) := fun q e => (hF q e).elim .inl fun e => .inr (Nat.le_trans B0.out.size e)
  obtain ⟨s0, kk, oo, hs2⟩ := hW.ex
  have HS := Lib.hid hs2
  have fg := Lib.hid hW.fg
  have lt := Lib.hid hW.lt
  have K3 := Lib.hid kk
  have O3 := Lib.hid oo
  obtain ⟨n0, hn0⟩ : ∃ n0, n0 = (l ++ [s.size].flatMap vbytes).length := ⟨_, rfl⟩
  have hn0b : n0 ≤ 1000000 := by
    have h1 : (vbytes s.size).length ≤ 10 := vbytes_len 9 _ (by omega)
    rw [List.length_append, List.flatMap_cons, List.flatMap_nil, List.append_nil] at hn0
    omega
  rw [← hn0] at O3 oo
  replace hn0 := Lib.hid hn0
  obtain ⟨A0, c0, rfl, _, _⟩ := Sl.of_own oo
  have y0 : w2.cell? ⟨g, 0, none⟩ = some (.slice A0 n0 c0) := K3.out.cell 0
  clear kp hF hW hs2 kk oo HN H B0
  go_wp2_with (at_builtin; refine wpList_strB O3.out s (Nat.zero_le _) (by omega) (by rfl) (by rfl) ?_; intro v1 w6 own1 kp hv1; obtain ⟨A1, c1, rfl, _, _⟩ := Sl.of_own own1; have K6 : Hid (Blk w6 g 122 #[.slice A0 n0 c0]) := K3.out.keep (kp.block g K3.out.lt fun e => own_ne_blk O3.out K3.out (by decide) e rfl); have y6 : w6.cell? ⟨g, 0, none⟩ = some (.slice A0 n0 c0) := K6.out.cell 0; have f6 : w6.frozen? ⟨g, 0, none⟩ = false := K6.out.fr 0)
  have e1 : s.size = s.data.toList.length := rfl
  rw [strCells_enc, e1] at own1
  obtain ⟨p1, F3, p2, p3⟩ := WrAt.put hn0.out K3.out O3.out HS.out fg.out lt.out own1 kp hv1
  go_end0
  refine ⟨rfl, KP.out.trans p1 fun x e => HF.out x e, F3, ?_, fun q e => (p3 q e).elim (HF.out q) fun e => .inr (Nat.le_trans KP.out.size e)⟩
  rw [List.append_assoc] at p2
  simpa using p2
theorem WrB.less {w : World} {B g : Nat} {l : List UInt8} {N M : Nat → Prop} (h : WrB w B g l N) (hM : ∀ q, M q → N q) : WrB w B g l M := h.away (Below.refl _ _) fun q m => .inl (hM q m)
theorem stay_less {N M : Nat → Prop} {a b : World} (h : Stay N a b) (hM : ∀ q, M q → N q) : Stay M a b := ⟨h.1, fun k hk m => h.2 k hk (hM k m)⟩
theorem wmByte {w : World} {B g : Nat} {l : List UInt8} {N : Nat → Prop} (h : WrB w B g l N) (hBw : B ≤ w.heap.size) (hNw : ∀ q, N q → q < w.heap.size) (xs : List UInt8) (n : Nat) (hn : xs.length = n) (hx : n ≤ 1000) (hl : l.length ≤ 800000) (cs : Array Value) (hc : cs = (encB xs).toArray) :
    Calls Tryz.prog 74 #[.pointer (some ⟨g, 0, none⟩), .slice (some ⟨w.heap.size, 0, none⟩) n n] (w.alloc (.cells cs 5)) (WbRet w B g (l ++ xs) N) := by
  have hb : Below w.heap.size w (w.alloc (.cells cs 5)) := below_new _ _
  obtain ⟨F, h1, h2, h3⟩ := h.ex
  have hs : Sl (w.alloc (.cells cs 5)) (w.alloc (.cells cs 5)).heap.size 1 (some ⟨w.heap.size, 0, none⟩) n (encB xs) :=
    sl_fresh w _ 5 1 n (encB xs) (by rw [encB_len, hn, Nat.mul_one]) (by rw [hc])
  exact (wrByte_any (h1.ext hb) xs _ n n _ hs hn (by omega)).mono fun _ _ h => wb_of hb h2 h3 hBw hNw h
theorem wmNum {w : World} {B g : Nat} {l : List UInt8} {N : Nat → Prop} (h : WrB w B g l N) (hBw : B ≤ w.heap.size) (hNw : ∀ q, N q → q < w.heap.size) (ns : List Nat) (hn : ∀ n ∈ ns, n < 18446744073709551616) (hm : ns.length ≤ 1000) (hl : l.length ≤ 800000) (cs : Array Value) (hc : cs = (encU ns).toArray) :
    Calls Tryz.prog 76 #[.pointer (some ⟨g, 0, none⟩), .slice (some ⟨w.heap.size, 0, none⟩) ns.length ns.length] (w.alloc (.cells cs 25)) (WbRet w B g (l ++ ns.flatMap vbytes) N) := by
  have hb : Below w.heap.size w (w.alloc (.cells cs 25)) := below_new _ _
  obtain ⟨F, h1, h2, h3⟩ := h.ex
  exact (wrNum_any (h1.ext hb) ns hn _ ns.length _ (u64_sl w ns cs hc) (fun b o e hf => by injection e with e; injection e with e _ _; have := h1.lt b hf; omega) rfl (by omega) hm).mono fun _ _ h => wb_of hb h2 h3 hBw hNw h
theorem wmNum1 {w : World} {B g : Nat} {l : List UInt8} {N : Nat → Prop} (h : WrB w B g l N) (hBw : B ≤ w.heap.size) (hNw : ∀ q, N q → q < w.heap.size) (n : Nat) (hn : n < 18446744073709551616) (hl : l.length ≤ 800000) :
    Calls Tryz.prog 76 #[.pointer (some ⟨g, 0, none⟩), .slice (some ⟨w.heap.size, 0, none⟩) 1 1] (w.alloc (.cells #[.int .u64 (n : Int)] 25)) (WbRet w B g (l ++ vbytes n) N) := by
  have := wmNum h hBw hNw [n] (fun m hm => by rw [List.mem_singleton.1 hm]; exact hn) (by simp) hl #[.int .u64 (n : Int)] rfl
  simpa using this
theorem wmText {w : World} {B g : Nat} {l : List UInt8} {N : Nat → Prop} (h : WrB w B g l N) (hBw : B ≤ w.heap.size) (hNw : ∀ q, N q → q < w.heap.size) (s : ByteArray) (hs : s.size ≤ 100000) (hl : l.length ≤ 800000) :
    Calls Tryz.prog 80 #[.pointer (some ⟨g, 0, none⟩), .string s] w (WbRet w B g (l ++ (vbytes s.size ++ s.data.toList)) N) := by
  obtain ⟨F, h1, h2, h3⟩ := h.ex
  exact (wrTextM_any h1 s (by omega) hs).mono fun _ _ h => wb_of (Below.refl _ _) h2 h3 hBw hNw h
theorem convN8 {k : Nat} (hk : k < 255) (w : World) : (convert 3 5 (.int .i64 ((k : Int) + 1))).run Tryz.prog w = .ok (.int .u8 ((k + 1 : Nat) : Int)) w := by
  have e2 : IntKind.u8.wrap ((k : Int) + 1) = ((k + 1 : Nat) : Int) := by
    have := IntWalk.u8_in ((k : Int) + 1) (by omega)
    rw [this]; omega
  rw [← e2]
  simp [go_sem]
theorem convI64 {k : Nat} (hk : k < 9223372036854775808) (w : World) : (convert 3 25 (.int .i64 ((k : Nat) : Int))).run Tryz.prog w = .ok (.int .u64 ((k : Nat) : Int)) w := by
  have e2 : IntKind.u64.wrap ((k : Nat) : Int) = ((k : Nat) : Int) := IntWalk.u64_in _ (by omega)
  conv => rhs; rw [← e2]
  simp [go_sem]
theorem conv16 {x : Int} (h0 : 0 ≤ x) (h1 : x ≤ 65535) (w : World) : (convert 22 25 (.int .u16 x)).run Tryz.prog w = .ok (.int .u64 ((x.toNat : Nat) : Int)) w := by
  have e2 : IntKind.u64.wrap x = ((x.toNat : Nat) : Int) := by
    rw [IntWalk.u64_in _ (by omega)]; omega
  rw [← e2]
  simp [go_sem]
theorem vecB_len {v : List Int} (hv : VecOk v) (k : Nat) (hk : k ≤ 64) : ((pairsTo v k).flatMap pairB).length ≤ 4 * 64 := by
  have : ∀ ps : List (Nat × Nat), (∀ p ∈ ps, p.2 ≤ 65535) → (ps.flatMap pairB).length ≤ 4 * ps.length := by
    intro ps
    induction ps with
    | nil => intro _; simp
    | cons p ps ih =>
      intro h
      have h1 := ih fun x hx => h x (List.mem_cons_of_mem _ hx)
      have h2 := h p (List.mem_cons_self ..)
      have h3 : (vbytes p.2).length ≤ 3 := vbytes_len 2 _ (by omega)
      rw [List.flatMap_cons, List.length_append, List.length_cons]
      unfold pairB at h1 ⊢
      rw [List.length_cons]
      omega
  have h1 := this (pairsTo v k) fun p hp => by
    unfold pairsTo at hp
    obtain ⟨i, hi, h2⟩ := List.mem_filterMap.1 hp
    unfold pairAt at h2
    split at h2
    · have hg := hv.get i (by have := List.mem_range.1 hi; omega)
      rw [← Option.some.inj h2]
      show (v.getD i 0).toNat ≤ 65535
      omega
    · cases h2
  have h2 := pairsTo_len v k
  omega
set_option maxRecDepth 100000 in
set_option maxHeartbeats 4000000 in
theorem putVec_any {w : World} {B g : Nat} {l : List UInt8} {N : Nat → Prop} (h : WrB w B g l N) (hBw : B ≤ w.heap.size) (hNw : ∀ q, N q → q < w.heap.size) (v : List Int) (hv : VecOk v) (hl : l.length ≤ 100000) :
    Calls Tryz.prog 75 #[.pointer (some ⟨g, 0, none⟩), .agg (vecA v)] w (WbRet w B g (l ++ vecB v) N) := by
  have HV := Lib.hid hv
  have hs1 : Hid ((vecA v).size = 64) := by rw [Hid, vecA_size]; exact hv.len
  have BN : Hid (Below w.heap.size w (w.alloc (.cells (vecA v) 24))) := below_new _ _
  have K1 : Hid (Blk (w.alloc (.cells (vecA v) 24)) w.heap.size 24 (vecA v)) := Blk.new _ _ _
  have W0 : Hid (WrB (w.alloc (.cells (vecA v) 24)) B g l (fun q => N q ∨ q = w.heap.size)) := h.away BN.out fun q e => e.elim .inl fun e => .inr (by omega)
  have HN : Hid (∀ q, (N q ∨ q = w.heap.size) → q < (w.alloc (.cells (vecA v) 24)).heap.size) := fun q e => by have := BN.out.size; have := K1.out.lt; exact e.elim (fun e => Nat.lt_of_lt_of_le (hNw q e) BN.out.size) fun e => by rw [e]; exact K1.out.lt
  have EB : Hid (vecB v = vbytes (pairsTo v 64).length ++ (pairsTo v 64).flatMap pairB) := rfl
  have B0 := Lib.hid (BN.out.mono hBw)
  have S0 : Hid (Stay N w (w.alloc (.cells (vecA v) 24))) := Stay.of_below BN.out
  rw [EB.out]
  clear h hv EB BN
  go_enter Tryz.func75, Tryz.ntmps75
  go_upto_region 1 with fail
  generalize (w.alloc (.cells (vecA v) 24)) = w2 at *
  obtain ⟨gv, hgv⟩ : ∃ gv, gv = w.heap.size := ⟨_, rfl⟩
  rw [← hgv] at K1 W0 HN ⊢
  replace hgv := Lib.hid hgv
  go_wp2_with (refine wpList_load_row rfl 24 _ (by rfl) gv (by rfl) _ _ _ _ K1.out under64 rfl (by rw [hs1.out]; exact info64) ?_)
  go_loop [4, 10] (fun s i => ∃ k : Nat, k ≤ 64 ∧ i = .int .i64 (k : Int) ∧ s = .int .i64 (((pairsTo v k).length : Nat) : Int)) (fun _ i => 64 - (intOf i).toNat)
  case atStart => exact ⟨0, by omega, rfl, rfl⟩
  case round =>
    obtain ⟨k, hk, rfl, rfl⟩ := hrel
    have hk0 : (0 : Int) ≤ (k : Int) := by omega
    by_cases hlt : k < 64
    · have hix := index_vec v HV.out k hlt
      obtain ⟨x0, x1⟩ := HV.out.get k hlt
      have PY := Lib.hid (fun h => pairsTo_yes (v := v) (k := k) h)
      have PN := Lib.hid (fun h => pairsTo_no (v := v) (k := k) h)
      have hpl := pairsTo_len v k
      generalize v.getD k 0 = x at *
      have hb0 : (k : Int) < 64 := by omega
      by_cases hx : (0 : Int) < x
      · have E : Hid ((pairsTo v (k + 1)).length = (pairsTo v k).length + 1) := by rw [Hid, PY.out hx, List.length_append]; rfl
        generalize (pairsTo v k).length = m at *
        clear PY PN
        go_wp2
        go_round
        case rel => exact ⟨k + 1, by omega, by go_num, by rw [E.out]; go_num⟩
        case measure => simp [intOf]; omega
      · have E : Hid ((pairsTo v (k + 1)).length = (pairsTo v k).length) := by rw [Hid, PN.out hx]
        generalize (pairsTo v k).length = m at *
        clear PY PN
        go_wp2
        go_round
        case rel => exact ⟨k + 1, by omega, by go_num, by rw [E.out]⟩
        case measure => simp [intOf]; omega
    · have hk' : k = 64 := by omega
      subst hk'
      have hpl := pairsTo_len v 64
      have hbs2 : Hid (B ≤ w2.heap.size) := by have := K1.out.lt; have := hgv.out; rw [Hid]; omega
      obtain ⟨L1, hL1⟩ : ∃ L1, L1 = l ++ vbytes (pairsTo v 64).length := ⟨_, rfl⟩
      have hL1l : L1.length ≤ 100010 := by
        have : (vbytes (pairsTo v 64).length).length ≤ 1 := vbytes_len 0 _ (by omega)
        rw [hL1, List.length_append]; omega
      have C1 := Lib.hid (fun u => convI64 (k := (pairsTo v 64).length) (by omega) u)
      have HNum := Lib.hid (wmNum1 W0.out hbs2.out HN.out (pairsTo v 64).length (by omega) (by omega))
      rw [← hL1] at HNum
      rw [← List.append_assoc, ← hL1]
      replace hL1 := Lib.hid hL1
      generalize hmm : (pairsTo v 64).length = m at *
      clear hmm
      go_wp2_with ((with_reducible refine wpList_convB ?_ (C1.out _) ?_); rfl)
      refine HNum.out.mono ?_
      rintro e w4 ⟨rfl, W4, b4, st4⟩
      have W4 := Lib.hid W4
      have B4 := Lib.hid (B0.out.trans b4)
      have K4 := Lib.hid (K1.out.keep (st4.2 gv K1.out.lt (.inr rfl)))
      have S4 := Lib.hid (stay_trans S0.out (stay_less st4 fun q e => .inl e))
      have HN4 : Hid (∀ q, (N q ∨ q = gv) → q < w4.heap.size) := fun q e => Nat.lt_of_lt_of_le (HN.out q e) st4.1
      have hbs4 : Hid (B ≤ w4.heap.size) := by have := st4.1; have := hbs2.out; rw [Hid]; omega
      clear W0 b4 st4 K1 S0 HN HNum C1 B0
      have ST := Lib.hid (show Stay (fun q => N q ∨ q = gv) w4 w4 from ⟨Nat.le_refl _, fun _ _ _ => rfl⟩)
      have BB := Lib.hid (Below.refl B w4)
      go_wp2_with (refine wpList_load_row rfl 24 _ (by rfl) gv (by rfl) _ _ _ _ K4.out under64 rfl (by rw [hs1.out]; exact info64) ?_)
      go_loopw [24] (fun i wr => ∃ k : Nat, k ≤ 64 ∧ i = .int .i64 (k : Int) ∧ Hid (WrB wr B g (L1 ++ (pairsTo v k).flatMap pairB) (fun q => N q ∨ q = gv)) ∧ Hid (Below B w4 wr) ∧ Hid (Stay (fun q => N q ∨ q = gv) w4 wr)) (fun i _ => 64 - (intOf i).toNat)
      case atStart => exact ⟨0, by omega, rfl, by rw [pairsTo_zero, List.flatMap_nil, List.append_nil]; exact W4.out, BB.out, ST.out⟩
      case round =>
        clear W4 BB ST
        obtain ⟨k, hk, rfl, WR, BR, SR⟩ := hrel
        obtain ⟨wi, rfl⟩ : ∃ wx, wx = wr := ⟨_, rfl⟩
        have hk0 : (0 : Int) ≤ (k : Int) := by omega
        have hbi : Hid (B ≤ wi.heap.size) := by have := SR.out.1; have := hbs4.out; rw [Hid]; omega
        have HNi : Hid (∀ q, (N q ∨ q = gv) → q < wi.heap.size) := fun q e => Nat.lt_of_lt_of_le (HN4.out q e) SR.out.1
        by_cases hlt : k < 64
        · have hix := index_vec v HV.out k hlt
          obtain ⟨x0, x1⟩ := HV.out.get k hlt
          have PY := Lib.hid (fun h => pairsTo_yes (v := v) (k := k) h)
          have PN := Lib.hid (fun h => pairsTo_no (v := v) (k := k) h)
          have hpl := vecB_len HV.out k (by omega)
          have hkb : (k : Int) < 64 := by omega
          generalize v.getD k 0 = x at *
          by_cases hx : (0 : Int) < x
          · obtain ⟨L2, hL2⟩ : ∃ L2, L2 = L1 ++ (pairsTo v k).flatMap pairB := ⟨_, rfl⟩
            have hL2l : L2.length ≤ 200000 := by rw [hL2, List.length_append]; omega
            have E : Hid (L1 ++ (pairsTo v (k + 1)).flatMap pairB = L2 ++ [UInt8.ofNat (k + 1)] ++ vbytes x.toNat) := by
              rw [Hid, PY.out hx, List.flatMap_append, hL2]
              unfold pairB
              simp
            rw [← hL2] at WR
            replace hL2 := Lib.hid hL2
            have C1 := Lib.hid (fun u => convN8 (k := k) (by omega) u)
            have C2 := Lib.hid (fun u => conv16 x0 x1 u)
            have HB1 := Lib.hid (wmByte WR.out hbi.out HNi.out [UInt8.ofNat (k + 1)] 1 rfl (by omega) (by omega) #[.int .u8 ((k + 1 : Nat) : Int)] (by
              show _ = (enc1 _ ++ []).toArray
              rw [enc1_nat (by omega)]; rfl))
            clear PY PN
            have hxn : x.toNat < 18446744073709551616 := by omega
            generalize x.toNat = xn at *
            generalize ((k + 1 : Nat) : Int) = kk at *
            go_wp2_with (first | ((with_reducible refine wpList_convB ?_ (C1.out _) ?_); rfl))
            refine HB1.out.mono ?_
            rintro e w5 ⟨rfl, W5, b5, st5⟩
            have W5 := Lib.hid W5
            have B5 := Lib.hid (BR.out.trans b5)
            have S5 := Lib.hid (stay_trans SR.out st5)
            have hb5 : Hid (B ≤ w5.heap.size) := by have := st5.1; have := hbi.out; rw [Hid]; omega
            have HN5 : Hid (∀ q, (N q ∨ q = gv) → q < w5.heap.size) := fun q e => Nat.lt_of_lt_of_le (HNi.out q e) st5.1
            have HB2 := Lib.hid (wmNum1 W5.out hb5.out HN5.out xn hxn (by rw [List.length_append]; simp; omega))
            clear b5 st5 HB1 WR BR SR W5
            go_wp2_with (first | ((with_reducible refine wpList_convB ?_ (C2.out _) ?_); rfl))
            refine HB2.out.mono ?_
            rintro e w6 ⟨rfl, W6, b6, st6⟩
            rw [← E.out] at W6
            have W6 := Lib.hid W6
            have B6 := Lib.hid (B5.out.trans b6)
            have S6 := Lib.hid (stay_trans S5.out st6)
            clear b6 st6 HB2 B5 S5
            go_wp2_with fail
            go_roundw
            case rel => exact ⟨k + 1, by omega, by go_num, W6.out, B6.out, S6.out⟩
            case measure => simp [intOf]; omega
          · have E : Hid (L1 ++ (pairsTo v (k + 1)).flatMap pairB = L1 ++ (pairsTo v k).flatMap pairB) := by rw [Hid, PN.out hx]
            clear PY PN
            go_wp2_with fail
            go_roundw
            case rel => exact ⟨k + 1, by omega, by go_num, by rw [E.out]; exact WR.out, BR.out, SR.out⟩
            case measure => simp [intOf]; omega
        · have hk' : k = 64 := by omega
          subst hk'
          have WF := Lib.hid (WR.out.less (M := N) fun q e => .inl e)
          have BF := Lib.hid (B4.out.trans BR.out)
          have SF := Lib.hid (stay_trans S4.out (stay_less SR.out fun q e => .inl e))
          go_wp2_with fail
          go_end0
          exact ⟨rfl, by have h1 := WF.out; rw [hL1.out, List.append_assoc] at h1; exact h1, BF.out, SF.out⟩
end Go.Proofs.YtdafiipedlglpaaGreatDoor
