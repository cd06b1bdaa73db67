/- What is ready can come at once, and waits; it is told whichever of them came first: walked. -/
import Derived.Test.YtnhbbggpgieipaaPoolq
import Derived.Test.YtnhbbggpgieipaaPoolw
import Derived.Test.YtnhbbggpgieipaaPoolm
import Derived.Test.YtnhbbggpgieipaaPoolf
import Derived.Test.YtnhbbggpgieipaaVrefs
namespace Go.Proofs.Ytnhbbggpgieipaa
open Go.RowKit

theorem oneEach_zero (l : List PatV) : OneEach (l.take 0) := by intro p hp; simp at hp
theorem oneEach_snoc {l : List PatV} {k : Nat} {x : PatV} (h : OneEach (l.take k)) (hx : l[k]? = some x) (hn : ∀ q ∈ l.take k, q.1 = x.1 → q = x) : OneEach (l.take (k + 1)) := by
  rw [take_snoc' hx]
  intro p hp q hq e
  rcases List.mem_append.1 hp with hp1 | hp1 <;> rcases List.mem_append.1 hq with hq1 | hq1
  · exact h p hp1 q hq1 e
  · obtain rfl := List.mem_singleton.1 hq1
    exact hn p hp1 e
  · obtain rfl := List.mem_singleton.1 hp1
    exact (hn q hq1 e.symm).symm
  · obtain rfl := List.mem_singleton.1 hp1
    obtain rfl := List.mem_singleton.1 hq1
    rfl
theorem poolL_take {l : List PatV} {k : Nat} {x : PatV} (hx : l[k]? = some x) : poolL (l.take (k + 1)) = polL 32 (poolL (l.take k)) x := by rw [take_snoc' hx, poolL_snoc]
theorem rotL_zero (l : List PatV) (f : Nat) : rotL l f 0 = [] := rfl
/-- what the two have come to -/
theorem readyV_some {v : List Int} {L : List PatV} {p : PatV} (h : readyL v L = some p) : ((readyL v L).isSome = true) ∧ (readyL v L).getD zeroPat = p := by rw [h]; exact ⟨rfl, rfl⟩
theorem fitB_next {v : List Int} {p : PatV} (h : fitB v p = true) : (nextV v p.1.1.val).1 = ((p.1.1.val : Nat) : Int) ∧ (nextV v p.1.1.val).2 = ((p.1.2.val : Nat) : Int) ∧ ∀ d ∈ p.2.1, hasP v d = true := by
  unfold fitB nextB at h
  simp only [Bool.and_eq_true, decide_eq_true_eq, List.all_eq_true] at h
  exact ⟨h.1.1, h.1.2, h.2⟩
set_option maxRecDepth 100000 in
set_option maxHeartbeats 16000000 in
theorem poolReady_walk (w : World) (l : List PatV) (A : Option Addr) (n c : Nat) (hm : n ≤ maxLen) (h : PatsAt w A n l) (v : List Int) (hv : VecOk v) (fr : Int) (hfr : (Lit.int .u8 fr).wf = true) :
    Calls Try.prog 10 #[.slice A n c, .agg (vecA v), .int .u8 fr] w (RetB w (.bool true)) := by
  obtain ⟨fr0, fr1⟩ := u8_of hfr
  have H0 := Lib.hid h
  have HV := Lib.hid hv
  have hs1 : Hid ((Try.prog.info? 25).map (·.size) = some (vecA v).size) := by rw [Hid, vecA_size, hv.len]; exact info64
  have KV : Hid (Blk (w.alloc (.cells (vecA v) 25)) w.heap.size 25 (vecA v)) := Blk.new _ _ _
  have B0 : Hid (Below w.heap.size w (w.alloc (.cells (vecA v) 25))) := below_new _ _
  clear h hv hfr
  go_enter Try.func10, Try.ntmps10
  go_upto_region 1 with fail
  generalize (w.alloc (.cells (vecA v) 25)) = w2 at *
  obtain ⟨gv, hgv⟩ : ∃ gv, gv = w.heap.size := ⟨_, rfl⟩
  rw [← hgv] at KV ⊢
  replace hgv := Lib.hid hgv
  have HF := Lib.hid (few20_any l w2 A n c 20 (H0.out.ext B0.out) hm)
  cases hf : fewsB l 20
  · rw [fewsN_false hf] at HF
    go_wp2_with fail
    refine HF.out.mono ?_
    rintro e w3 ⟨rfl, b3⟩
    have B3 := Lib.hid (B0.out.trans (b3.mono B0.out.size))
    clear b3 HF
    go_wp2_with fail
    refine (works32 _).mono ?_
    rintro e w4 ⟨rfl, b4⟩
    have B4 := Lib.hid (B3.out.trans (b4.mono B3.out.size))
    clear b4
    go_wp2
    go_ret
    exact ⟨rfl, B4.out⟩
  · rw [fewsN_true hf] at HF
    have HQ := Lib.hid (fews_at hf)
    have hn20 : n ≤ 20 := by have h1 := HQ.out.1; have h2 := H0.out.len; omega
    have hln := H0.out.len
    go_wp2_with fail
    refine HF.out.mono ?_
    rintro e w3 ⟨rfl, b3⟩
    have B3 := Lib.hid (B0.out.trans (b3.mono B0.out.size))
    have KV := Lib.hid (KV.out.ext b3)
    clear b3 HF hf B0
    go_wp2_with fail
    refine (newPl_any 32 _).mono ?_
    rintro e w4 ⟨g1, rfl, hP1, b4⟩
    rw [show roomV 32 = 32 by kernel_rfl] at hP1
    have B4 := Lib.hid (B3.out.trans (b4.mono B3.out.size))
    have hgv3 : Hid (gv < w3.heap.size) := KV.out.lt
    have KV := Lib.hid (KV.out.ext b4)
    have HP1 := Lib.hid hP1
    clear hP1 b4
    go_wp2_with fail
    refine (newPl_any 32 _).mono ?_
    rintro e w5 ⟨g2, rfl, hP2, b5⟩
    rw [show roomV 32 = 32 by kernel_rfl] at hP2
    have B5 := Lib.hid (B4.out.trans (b5.mono B4.out.size))
    have KV := Lib.hid (KV.out.ext b5)
    have HP1 := Lib.hid (HP1.out.ext b5)
    have HP2 := Lib.hid hP2
    have h34 : Hid (w3.heap.size ≤ w4.heap.size) := Nat.le_of_lt (Nat.lt_of_le_of_lt (HP1.out.self.1) (HP1.out.self.2))
    have h45 : Hid (w4.heap.size ≤ w5.heap.size) := b5.size
    have hw3 : Hid (w.heap.size ≤ w3.heap.size) := B3.out.size
    have hF1 : Hid (∀ k, (fun k => w3.heap.size ≤ k ∧ k < w4.heap.size) k → w3.heap.size ≤ k ∧ k < w4.heap.size) := fun k e => e
    have hF2 : Hid (∀ k, (fun k => w4.heap.size ≤ k ∧ k < w5.heap.size) k → w4.heap.size ≤ k ∧ k < w5.heap.size) := fun k e => e
    clear hP2 b5 B3 B4
    generalize (fun k => w3.heap.size ≤ k ∧ k < w4.heap.size) = F1 at *
    generalize (fun k => w4.heap.size ≤ k ∧ k < w5.heap.size) = F2 at *
    have hm1 : (n : Int) ≤ 9223372036854775807 := by omega
    go_wp2_with fail
    -- all are put into the first
    go_loopw [9] (fun i wr => ∃ k : Nat, k ≤ n ∧ i = .int .i64 k ∧ Hid (OneEach (l.take k)) ∧ Hid (∃ Fa, PoolAt wr Fa g1 32 (poolL (l.take k)) ∧ ∀ x, Fa x → (w3.heap.size ≤ x ∧ x < w4.heap.size) ∨ w5.heap.size ≤ x) ∧ Hid (PoolAt wr F2 g2 32 []) ∧ Hid (Blk wr gv 25 (vecA v)) ∧ Hid (Below w.heap.size w wr) ∧ Hid (w5.heap.size ≤ wr.heap.size)) (fun i _ => n - (intOf i).toNat)
    case atStart => exact ⟨0, by omega, rfl, oneEach_zero l, ⟨F1, HP1.out, fun x e => .inl (hF1.out x e)⟩, HP2.out, KV.out, B5.out, Nat.le_refl _⟩
    case round =>
      clear HP1 HP2 KV B5
      obtain ⟨k, hk, rfl, OE, HPA, HP2, KV, B, hsz⟩ := hrel
      have hk0 : (0 : Int) ≤ (k : Int) := by omega
      by_cases hlt : k < n
      · have hlk : (k : Int) < (n : Int) := by omega
        obtain ⟨b, o, x, r, rfl, hb, hx, pa, R⟩ := (H0.out.ext B.out).at_ hlt
        have R := Lib.hid R
        have PX := Lib.hid pa
        have hb := Lib.hid hb
        have BW := Lib.hid (Below.refl wr.heap.size wr)
        have BX := B
        clear pa
        generalize wr = wo at *
        go_wp2_with fail
        go_loopw [10] (fun j wq => ∃ m : Nat, m ≤ k ∧ j = .int .i64 m ∧ Hid (∀ q ∈ l.take m, q.1 = x.1 → q = x) ∧ Hid (Below wo.heap.size wo wq)) (fun j _ => k - (intOf j).toNat)
        case atStart => exact ⟨0, by omega, rfl, by simp [Hid], BW.out⟩
        case round =>
          clear BW
          obtain ⟨m, hmk, rfl, HE, BQ⟩ := hrel
          have hm0 : (0 : Int) ≤ (m : Int) := by omega
          by_cases hmlt : m < k
          · have hmlk : (m : Int) < (k : Int) := by omega
            have hmn : (m : Int) < (n : Int) := by omega
            obtain ⟨b2, o2, y, r2, e2, hb2, hy, pa2, R2⟩ := ((H0.out.ext BX.out).ext BQ.out).at_ (k := m) (by omega)
            obtain ⟨rfl, rfl⟩ : b = b2 ∧ o = o2 := by injection e2 with e2; injection e2 with e3 e4; exact ⟨e3, e4⟩
            have R1 := Lib.hid (rangeAt_below R.out BQ.out hb.out)
            have R2 := Lib.hid R2
            have PX1 := Lib.hid (PX.out.ext BQ.out)
            have PY := Lib.hid pa2
            have hbl := Lib.hid hb2
            have EQ := fun u => eqlP x.1 y.1 u
            obtain ⟨⟨A1, c1, A2, c2, rfl, _, _⟩, _, _⟩ := PX1.out
            obtain ⟨⟨A3, c3, A4, c4, rfl, _, _⟩, _, _⟩ := PY.out
            have RP1 := Lib.hid (pid_range R1.out)
            have RP2 := Lib.hid (pid_range R2.out)
            clear pa2 e2 hb2
            by_cases e1 : x.1 = y.1
            · have EQ' : ∀ u : World, (binOp .eql 41 (.agg (encP x.1).toArray) (.agg (encP y.1).toArray)).run Try.prog u = .ok (.bool true) u := fun u => by rw [EQ, decide_eq_true e1]
              clear EQ
              have HS := Lib.hid (fun z : Ext wr => rpsame x y z.w _ _ (PX1.out.ext z.h) (PY.out.ext z.h))
              by_cases e3 : x = y
              · simp only [decide_eq_true e3] at HS
                have N : Hid (∀ q ∈ l.take (m + 1), q.1 = x.1 → q = x) := fun q hq e => by
                  rw [take_snoc' hy] at hq
                  rcases List.mem_append.1 hq with hq | hq
                  · exact HE.out q hq e
                  · rw [List.mem_singleton.1 hq, e3]
                clear e1 e3 hy HE
                go_wp2_with fail
                refine wp_region_ext mixedS (by kernel_rfl) ?_
                repeat (first
                  | go_big_quiet_skip
                  | (refine wpQuiet_load_mid (rangeAt_ext RP1.out hbl.out) underPid rfl infoPid rfl rfl ?_; simp only [List.set_cons_succ, List.set_cons_zero])
                  | (refine wpQuiet_load_mid (rangeAt_ext RP2.out hbl.out) underPid rfl infoPid rfl rfl ?_; simp only [List.set_cons_succ, List.set_cons_zero])
                  | (refine wpQuiet_load_mid (rangeAt_ext R1.out hbl.out) underPat rfl infoPat rfl rfl ?_; simp only [List.set_cons_succ, List.set_cons_zero])
                  | (refine wpQuiet_load_mid (rangeAt_ext R2.out hbl.out) underPat rfl infoPat rfl rfl ?_; simp only [List.set_cons_succ, List.set_cons_zero])
                  | go_big_quiet_step ((go_at_call 26; exact ext_call (HS.out _))))
                refine wpQuiet_nil ?_
                rintro _ ⟨z, rfl⟩
                have BQ2 := Lib.hid (BQ.out.trans (z.h.mono BQ.out.size))
                go_wp2_with fail
                go_roundw
                case rel => exact ⟨m + 1, by omega, by go_num, N.out, BQ2.out⟩
                case measure => simp [intOf]; omega
              · simp only [decide_eq_false e3] at HS
                clear e1 e3 hy HE
                go_wp2_with fail
                refine wp_region_ext mixedS (by kernel_rfl) ?_
                repeat (first
                  | go_big_quiet_skip
                  | (refine wpQuiet_load_mid (rangeAt_ext RP1.out hbl.out) underPid rfl infoPid rfl rfl ?_; simp only [List.set_cons_succ, List.set_cons_zero])
                  | (refine wpQuiet_load_mid (rangeAt_ext RP2.out hbl.out) underPid rfl infoPid rfl rfl ?_; simp only [List.set_cons_succ, List.set_cons_zero])
                  | (refine wpQuiet_load_mid (rangeAt_ext R1.out hbl.out) underPat rfl infoPat rfl rfl ?_; simp only [List.set_cons_succ, List.set_cons_zero])
                  | (refine wpQuiet_load_mid (rangeAt_ext R2.out hbl.out) underPat rfl infoPat rfl rfl ?_; simp only [List.set_cons_succ, List.set_cons_zero])
                  | go_big_quiet_step ((go_at_call 26; exact ext_call (HS.out _))))
                refine wpQuiet_nil ?_
                rintro _ ⟨z, rfl⟩
                have BQ2 := Lib.hid (BX.out.trans ((BQ.out.trans (z.h.mono BQ.out.size)).mono BX.out.size))
                go_wp2_with fail
                refine (works32 _).mono ?_
                rintro e w9 ⟨rfl, b9⟩
                have B9 := Lib.hid (BQ2.out.trans (b9.mono BQ2.out.size))
                clear b9
                go_wp2
                go_ret
                exact ⟨rfl, B9.out⟩
            · have EQ' : ∀ u : World, (binOp .eql 41 (.agg (encP x.1).toArray) (.agg (encP y.1).toArray)).run Try.prog u = .ok (.bool false) u := fun u => by rw [EQ, decide_eq_false e1]
              clear EQ
              have N : Hid (∀ q ∈ l.take (m + 1), q.1 = x.1 → q = x) := fun q hq e => by
                rw [take_snoc' hy] at hq
                rcases List.mem_append.1 hq with hq | hq
                · exact HE.out q hq e
                · rw [List.mem_singleton.1 hq] at e; exact absurd e.symm e1
              clear e1 hy HE
              go_wp2_with fail
              refine wp_region_ext mixedS (by kernel_rfl) ?_
              repeat (first
                | go_big_quiet_skip
                | (refine wpQuiet_load_mid (rangeAt_ext RP1.out hbl.out) underPid rfl infoPid rfl rfl ?_; simp only [List.set_cons_succ, List.set_cons_zero])
                | (refine wpQuiet_load_mid (rangeAt_ext RP2.out hbl.out) underPid rfl infoPid rfl rfl ?_; simp only [List.set_cons_succ, List.set_cons_zero])
                | go_big_quiet_step (fail))
              refine wpQuiet_nil ?_
              rintro _ ⟨z, rfl⟩
              have BQ2 := Lib.hid (BQ.out.trans (z.h.mono BQ.out.size))
              go_wp2_with fail
              go_roundw
              case rel => exact ⟨m + 1, by omega, by go_num, N.out, BQ2.out⟩
              case measure => simp [intOf]; omega
          · have hmlk : ¬ ((m : Int) < (k : Int)) := by omega
            have hmk' : m = k := by omega
            rw [hmk'] at HE
            have OE2 := Lib.hid (oneEach_snoc OE.out hx HE.out)
            have N := Lib.hid (poolL_take hx)
            have RW := Lib.hid (rangeAt_below R.out BQ.out hb.out)
            have PW := Lib.hid (PX.out.ext BQ.out)
            have HP2 := Lib.hid (HP2.out.ext BQ.out)
            have KV := Lib.hid (KV.out.ext BQ.out)
            have BY := Lib.hid (BX.out.trans (BQ.out.mono BX.out.size))
            obtain ⟨Fa, hpa, hFa⟩ := HPA.out
            have hpa := Lib.hid (hpa.ext BQ.out)
            have hFa := Lib.hid hFa
            have hszr : Hid (w5.heap.size ≤ wr.heap.size) := Nat.le_trans hsz.out BQ.out.size
            have hxl := HQ.out.2 x (List.mem_of_getElem? hx)
            have hlen4 := PW.out.len4
            have hi4 : (Try.prog.info? 45).map (·.size) = some r.length := by rw [hlen4]; exact infoPat
            clear HE OE HPA BQ R PX hx hmlk
            have hmlk : ¬ ((k : Int) < (k : Int)) := by omega
            subst hmk'
            have HU := Lib.hid (putPl_any hpa.out (by decide) x _ PW.out ⟨by omega, by omega⟩)
            go_wp2_with (refine wpList_load_mid rfl 45 _ (by rfl) b (o + m * 4) (by rfl) _ _ RW.out underPat rfl hi4 ?_)
            refine HU.out.mono ?_
            rintro e w9 ⟨rfl, kp, F', hp9, hF'⟩
            rw [← N.out] at hp9
            have HP9 := Lib.hid hp9
            have HP2 := Lib.hid (HP2.out.stay (kp.stay fun k _ h2 h1 => by have := hF2.out k h2; rcases hFa.out k h1 with h | h <;> omega))
            have KV := Lib.hid (kp.blk KV.out fun h1 => by have := hgv3.out; have := h34.out; have := h45.out; rcases hFa.out gv h1 with h | h <;> omega)
            have B9 := Lib.hid (BY.out.trans (kp.below (fun k h1 => by have := hw3.out; have := h34.out; have := h45.out; rcases hFa.out k h1 with h | h <;> omega) BY.out.size))
            have hF9 : Hid (∀ x, F' x → (w3.heap.size ≤ x ∧ x < w4.heap.size) ∨ w5.heap.size ≤ x) := fun x e => (hF' x e).elim (hFa.out x) fun e => .inr (Nat.le_trans hszr.out e)
            have hs9 : Hid (w5.heap.size ≤ w9.heap.size) := Nat.le_trans hszr.out kp.size
            clear kp hp9 hF' HU hpa BY hFa hszr RW PW
            go_wp2_with fail
            go_roundw
            case rel => exact ⟨m + 1, by omega, by go_num, OE2.out, ⟨F', HP9.out, hF9.out⟩, HP2.out, KV.out, B9.out, hs9.out⟩
            case measure => simp [intOf]; omega
      · have hlk : ¬ ((k : Int) < (n : Int)) := by omega
        rw [List.take_of_length_le (by omega)] at OE HPA
        have TURN : Hid (∀ f, poolL (rotL l f n) = poolL l) := fun f => by have := pool_turn OE.out (by omega) f; rw [hln] at this; exact this
        have hln20 : Hid ((poolL l).length ≤ 32) := (poolL_ok l).few32
        obtain ⟨Fa, hpa, hFa⟩ := HPA.out
        have HA := Lib.hid hpa
        have hFa := Lib.hid hFa
        have hFl : Hid (∀ x, Fa x → x < wr.heap.size) := hpa.lt
        clear hpa HPA OE
        generalize wr = wa at *
        obtain ⟨f, rfl⟩ : ∃ f : Nat, fr = (f : Int) := ⟨fr.toNat, by omega⟩
        go_wp2_with fail
        -- and into the second, in another order
        go_loopw [11] (fun i wr => ∃ k : Nat, k ≤ n ∧ i = .int .i64 k ∧ Hid (∃ Fb, PoolAt wr Fb g2 32 (poolL (rotL l f k)) ∧ ∀ x, Fb x → (w4.heap.size ≤ x ∧ x < w5.heap.size) ∨ wa.heap.size ≤ x) ∧ Hid (PoolAt wr Fa g1 32 (poolL l)) ∧ Hid (Blk wr gv 25 (vecA v)) ∧ Hid (Below w.heap.size w wr) ∧ Hid (wa.heap.size ≤ wr.heap.size)) (fun i _ => n - (intOf i).toNat)
        case atStart => exact ⟨0, by omega, rfl, ⟨F2, HP2.out, fun x e => .inl (hF2.out x e)⟩, HA.out, KV.out, B.out, Nat.le_refl _⟩
        case round =>
          clear HA HP2 KV B
          obtain ⟨k, hk, rfl, HPB, HA, KV, B, hsb⟩ := hrel
          have hk0 : (0 : Int) ≤ (k : Int) := by omega
          by_cases hlt : k < n
          · have hlk : (k : Int) < (n : Int) := by omega
            have hj : (k + f) % n < n := Nat.mod_lt _ (by omega)
            obtain ⟨b, o, x, r, rfl, hb, hx, pa, R⟩ := (H0.out.ext B.out).at_ hj
            have hd : ((n : Int) == 0) = false := by simp; omega
            have ht : Int.tmod ((k : Int) + (f : Int)) (n : Int) = (((k + f) % n : Nat) : Int) := by
              rw [Int.tmod_eq_emod_of_nonneg (by omega)]; norm_cast
            have N : Hid (poolL (rotL l f (k + 1)) = polL 32 (poolL (rotL l f k)) x) := by
              rw [Hid, rotL_snoc (p := x) (by rw [hln]; exact hx), poolL_snoc]
            have RW := Lib.hid R
            have PW := Lib.hid pa
            obtain ⟨Fb, hpb, hFb⟩ := HPB.out
            have hpb := Lib.hid hpb
            have hFb := Lib.hid hFb
            have hxl := HQ.out.2 x (List.mem_of_getElem? hx)
            have hlen4 := PW.out.len4
            have hi4 : (Try.prog.info? 45).map (·.size) = some r.length := by rw [hlen4]; exact infoPat
            have HU := Lib.hid (putPl_any hpb.out (by decide) x _ PW.out ⟨by omega, by omega⟩)
            generalize (k + f) % n = j at *
            have j0 : (0 : Int) ≤ (j : Int) := by omega
            have j1 : (j : Int) < (n : Int) := by omega
            have hsum : (k : Int) + (f : Int) ≤ 9223372036854775807 := by omega
            have hsum0 : (0 : Int) ≤ (k : Int) + (f : Int) := by omega
            clear pa R hx HPB
            go_wp2_with (refine wpList_load_mid rfl 45 _ (by rfl) b (o + j * 4) (by rfl) _ _ RW.out underPat rfl hi4 ?_)
            refine HU.out.mono ?_
            rintro e w9 ⟨rfl, kp, F', hp9, hF'⟩
            rw [← N.out] at hp9
            have HP9 := Lib.hid hp9
            have HA := Lib.hid (HA.out.stay (kp.stay fun k _ h2 h1 => by have := hFl.out k h2; have := hFa.out k h2; rcases hFb.out k h1 with h | h <;> omega))
            have KV := Lib.hid (kp.blk KV.out fun h1 => by have := hgv3.out; have := h34.out; have := h45.out; have := hsz.out; rcases hFb.out gv h1 with h | h <;> omega)
            have B9 := Lib.hid (B.out.trans (kp.below (fun k h1 => by have := hw3.out; have := h34.out; have := h45.out; have := hsz.out; rcases hFb.out k h1 with h | h <;> omega) B.out.size))
            have hF9 : Hid (∀ x, F' x → (w4.heap.size ≤ x ∧ x < w5.heap.size) ∨ wa.heap.size ≤ x) := fun x e => (hF' x e).elim (hFb.out x) fun e => .inr (Nat.le_trans hsb.out e)
            have hs9 : Hid (wa.heap.size ≤ w9.heap.size) := Nat.le_trans hsb.out kp.size
            clear kp hp9 hF' HU hpb B hFb hsb RW PW
            go_wp2_with fail
            go_roundw
            case rel => exact ⟨k + 1, by omega, by go_num, ⟨F', HP9.out, hF9.out⟩, HA.out, KV.out, B9.out, hs9.out⟩
            case measure => simp [intOf]; omega
          · have hlk : ¬ ((k : Int) < (n : Int)) := by omega
            have hk' : k = n := by omega
            rw [hk', TURN.out f] at HPB
            obtain ⟨Fb, hpb, hFb⟩ := HPB.out
            have HB := Lib.hid hpb
            have HOK := Lib.hid (poolL_ok l)
            clear hpb HPB hk hk0 TURN H0
            generalize poolL l = L at *
            generalize wr = wb at *
            have hFbl : Hid (∀ k, Fa k → gv < k) := fun k h1 => by have := hgv3.out; have := h34.out; have := h45.out; rcases hFa.out k h1 with h | h <;> omega
            have hFaw : Hid (∀ k, Fa k → w.heap.size ≤ k) := fun k h1 => by have := hw3.out; have := h34.out; have := h45.out; rcases hFa.out k h1 with h | h <;> omega
            clear hFb hFa hF1 hF2 hsz hgv3 h34 h45 hw3
            have hFs : Hid (∀ k, Fa k → k < wb.heap.size) := HA.out.lt
            obtain ⟨ok, p, hok, hgp⟩ : ∃ ok p, (readyL v L).isSome = ok ∧ (readyL v L).getD zeroPat = p := ⟨_, _, rfl, rfl⟩
            have HR := Lib.hid (readyPl_any HA.out v HV.out)
            go_wp2_with (refine wpList_load_row rfl 25 _ (by rfl) gv (by rfl) _ _ _ _ KV.out under64 rfl hs1.out ?_)
            refine HR.out.mono ?_
            rintro e wc ⟨r, rfl, pr, bc⟩
            rw [hgp] at pr
            rw [hok]
            have PR1 := Lib.hid pr
            obtain ⟨⟨A1, c1, A2, c2, rfl, _, _, _, _⟩, _, _⟩ := PR1.out
            have M : Hid (Below wc.heap.size wc ((wc.alloc (.cells #[.int .u8 0, .int .u16 0, .slice none 0 0, .slice none 0 0] 45)).setRow wc.heap.size (patC p.1 A1 p.2.1.length c1 A2 p.2.2.length c2).toArray)) := below_setRow ((Below.refl _ _).alloc (Nat.le_refl _) _) (Nat.le_refl _) _
            have K12 : Hid (Blk ((wc.alloc (.cells #[.int .u8 0, .int .u16 0, .slice none 0 0, .slice none 0 0] 45)).setRow wc.heap.size (patC p.1 A1 p.2.1.length c1 A2 p.2.2.length c2).toArray) wc.heap.size 45 (patC p.1 A1 p.2.1.length c1 A2 p.2.2.length c2).toArray) := (Blk.new _ _ _).row _
            have hg12 : Hid (wb.heap.size ≤ wc.heap.size) := bc.size
            have BD := Lib.hid (bc.trans (M.out.mono bc.size))
            clear pr bc HR
            go_upto_region 18 with (first
              | (refine wpList_alloced (allocPat _) ?_)
              | (refine wpList_store_row rfl 45 _ _ (by rfl) wc.heap.size (patC p.1 A1 p.2.1.length c1 A2 p.2.2.length c2).toArray (by rfl) (by rfl) _ _ (Blk.new _ _ _) infoPat rfl patC_one ?_))
            have HA := Lib.hid (HA.out.ext BD.out)
            have HB := Lib.hid (HB.out.ext BD.out)
            have KV := Lib.hid (KV.out.ext BD.out)
            have PR1 := Lib.hid (PR1.out.ext M.out)
            have B := Lib.hid (B.out.trans (BD.out.mono B.out.size))
            clear BD M
            generalize ((wc.alloc (.cells #[.int .u8 0, .int .u16 0, .slice none 0 0, .slice none 0 0] 45)).setRow wc.heap.size (patC p.1 A1 p.2.1.length c1 A2 p.2.2.length c2).toArray) = wd at *
            generalize wc.heap.size = g12 at *
            have HR := Lib.hid (readyPl_any HB.out v HV.out)
            go_wp2_with (refine wpList_load_row rfl 25 _ (by rfl) gv (by rfl) _ _ _ _ KV.out under64 rfl hs1.out ?_)
            refine HR.out.mono ?_
            rintro e wc ⟨r, rfl, pr, bc⟩
            rw [hgp] at pr
            rw [hok]
            have PR2 := Lib.hid pr
            obtain ⟨⟨A3, c3, A4, c4, rfl, _, _, _, _⟩, _, _⟩ := PR2.out
            have M : Hid (Below wc.heap.size wc ((wc.alloc (.cells #[.int .u8 0, .int .u16 0, .slice none 0 0, .slice none 0 0] 45)).setRow wc.heap.size (patC p.1 A3 p.2.1.length c3 A4 p.2.2.length c4).toArray)) := below_setRow ((Below.refl _ _).alloc (Nat.le_refl _) _) (Nat.le_refl _) _
            have K14 : Hid (Blk ((wc.alloc (.cells #[.int .u8 0, .int .u16 0, .slice none 0 0, .slice none 0 0] 45)).setRow wc.heap.size (patC p.1 A3 p.2.1.length c3 A4 p.2.2.length c4).toArray) wc.heap.size 45 (patC p.1 A3 p.2.1.length c3 A4 p.2.2.length c4).toArray) := (Blk.new _ _ _).row _
            have hgn : Hid (wd.heap.size ≤ wc.heap.size) := bc.size
            have BD := Lib.hid (bc.trans (M.out.mono bc.size))
            clear pr bc HR
            go_upto_region 19 with (first
              | (refine wpList_alloced (allocPat _) ?_)
              | (refine wpList_store_row rfl 45 _ _ (by rfl) wc.heap.size (patC p.1 A3 p.2.1.length c3 A4 p.2.2.length c4).toArray (by rfl) (by rfl) _ _ (Blk.new _ _ _) infoPat rfl patC_one ?_))
            have HA := Lib.hid (HA.out.ext BD.out)
            have HB := Lib.hid (HB.out.ext BD.out)
            have KV := Lib.hid (KV.out.ext BD.out)
            have PR2 := Lib.hid (PR2.out.ext M.out)
            have B := Lib.hid (B.out.trans (BD.out.mono B.out.size))
            have PR1 := Lib.hid (PR1.out.ext BD.out)
            have K12 := Lib.hid (K12.out.ext BD.out)
            clear BD M
            generalize ((wc.alloc (.cells #[.int .u8 0, .int .u16 0, .slice none 0 0, .slice none 0 0] 45)).setRow wc.heap.size (patC p.1 A3 p.2.1.length c3 A4 p.2.2.length c4).toArray) = we at *
            generalize wc.heap.size = g14 at *
            have HS := Lib.hid (rpsame p p we _ _ PR1.out.at_ PR2.out.at_)
            rw [decide_eq_true rfl] at HS
            go_wp2_with (first
              | (refine wpList_load_rowG (by rfl) 45 _ (by rfl) g12 (by rfl) _ _ _ _ K12.out underPat rfl infoPat ?_)
              | (refine wpList_load_rowG (by rfl) 45 _ (by rfl) g14 (by rfl) _ _ _ _ K14.out underPat rfl infoPat ?_))
            refine HS.out.mono ?_
            rintro e wf ⟨rfl, bf⟩
            have HA := Lib.hid (HA.out.ext bf)
            have HB := Lib.hid (HB.out.ext bf)
            have KV := Lib.hid (KV.out.ext bf)
            have K12 := Lib.hid (K12.out.ext bf)
            have PR1 := Lib.hid (PR1.out.ext bf)
            have B := Lib.hid (B.out.trans (bf.mono B.out.size))
            clear bf HS K14 PR2
            go_wp2_with fail
            refine (allPl_any HA.out).mono ?_
            rintro e wg ⟨s1, rfl, O, bg⟩
            obtain ⟨A5, c5, rfl, _⟩ := O.slice
            have P1 := Lib.hid O.pats.at_
            have HA := Lib.hid (HA.out.ext bg)
            have HB := Lib.hid (HB.out.ext bg)
            have KV := Lib.hid (KV.out.ext bg)
            have K12 := Lib.hid (K12.out.ext bg)
            have PR1 := Lib.hid (PR1.out.ext bg)
            have B := Lib.hid (B.out.trans (bg.mono B.out.size))
            clear O bg
            go_wp2_with fail
            refine (allPl_any HB.out).mono ?_
            rintro e wh ⟨s2, rfl, O, bh⟩
            obtain ⟨A6, c6, rfl, _⟩ := O.slice
            have P2 := Lib.hid O.pats.at_
            have P1 := Lib.hid (P1.out.ext bh)
            have HA := Lib.hid (HA.out.ext bh)
            have KV := Lib.hid (KV.out.ext bh)
            have K12 := Lib.hid (K12.out.ext bh)
            have PR1 := Lib.hid (PR1.out.ext bh)
            have B := Lib.hid (B.out.trans (bh.mono B.out.size))
            clear O bh HB
            go_wp2_with fail
            refine (patches30_same L wh A5 A6 L.length c5 c6 P1.out P2.out (by have := hln20.out; unfold maxLen; omega)).mono ?_
            rintro e wi ⟨rfl, bi⟩
            have HA := Lib.hid (HA.out.ext bi)
            have KV := Lib.hid (KV.out.ext bi)
            have K12 := Lib.hid (K12.out.ext bi)
            have PR1 := Lib.hid (PR1.out.ext bi)
            have B := Lib.hid (B.out.trans (bi.mono B.out.size))
            clear bi P1 P2
            cases ok
            · go_wp2_with fail
              refine (works32 _).mono ?_
              rintro e wj ⟨rfl, bj⟩
              have B := Lib.hid (B.out.trans (bj.mono B.out.size))
              clear bj
              go_wp2
              go_ret
              exact ⟨rfl, B.out⟩
            · have hrd : readyL v L = some p := by
                cases hx : readyL v L with
                | none => rw [hx] at hok; cases hok
                | some q => rw [hx] at hgp; exact congrArg some hgp
              obtain ⟨hpL, hfit⟩ := readyL_some hrd
              obtain ⟨n1, n2, n3⟩ := fitB_next hfit
              have N3 := Lib.hid n3
              have NF1 : Hid ((findP (lackP v L) p.1).isSome = true) := isSome_in (HOK.out.rise.sublist List.filter_sublist) (List.mem_filter.2 ⟨hpL, by rw [ready_lacks HV.out hfit]; rfl⟩)
              have NF2 : Hid ((findP (dropL (lackP v L) p.1) p.1).isSome = false) := by rw [Hid, dropL_gone]; rfl
              have hpi : p.1 ∈ idsV L := List.mem_map.2 ⟨p, hpL, rfl⟩
              have HHAS : Hid (∀ u : World, Calls Try.prog 55 #[.agg (encBl (ofN (idsV L))).toArray, .agg (encP p.1).toArray] u (RetB u (.bool true))) := fun u => by
                have := has13_any (ofN (idsV L)) (ofN_ok _) p.1 u
                rw [hasN_of hpi] at this; exact this
              have HBL : Hid (∀ z : Ext wi, Calls Try.prog 52 #[.pointer (some ⟨g1, 0, none⟩)] z.w (RetB z.w (.agg (encBl (ofN (idsV L))).toArray))) := fun z => bloomPl_any (HA.out.ext z.h)
              have HN : Hid (∀ u : World, Calls Try.prog 54 #[.agg (v.map (Value.int .u16)).toArray, .int .u8 ((p.1.1.val : Nat) : Int)] u (RetB u (.agg (encP p.1).toArray))) := fun u => by
                have := rnext_any v HV.out p.1.1.val u
                rw [n1, n2] at this; exact this
              have NEQ : ∀ u : World, (binOp .neq 41 (.agg (encP p.1).toArray) (.agg (encP p.1).toArray)).run Try.prog u = .ok (.bool false) u := fun u => by rw [neqP, decide_eq_true rfl]; rfl
              have RV := Lib.hid (blk_vec KV.out)
              have gvl : Hid (gv < wi.heap.size) := KV.out.lt
              have RP := Lib.hid (patC_pid K12.out)
              have g12l : Hid (g12 < wi.heap.size) := K12.out.lt
              have q0 : ∀ z : Ext wi, z.w.cell? ⟨g12, 0, none⟩ = some (.int .u8 ((p.1.1.val : Nat) : Int)) := fun z => (K12.out.ext z.h).cell 0
              generalize (encBl (ofN (idsV L))).toArray = xb at HHAS HBL
              clear n1 n2 n3 hpi hrd hok hgp
              go_upto_region 22 with fail
              refine wp_region_ext mixedS (by kernel_rfl) ?_
              repeat (first
                | go_big_quiet_skip
                | (refine wpQuiet_load_mid (rangeAt_ext RV.out gvl.out) under64 rfl (info64' HV.out) rfl rfl ?_; simp only [List.set_cons_succ, List.set_cons_zero])
                | (refine wpQuiet_load_mid (rangeAt_ext RP.out g12l.out) underPid rfl infoPid rfl rfl ?_; simp only [List.set_cons_succ, List.set_cons_zero])
                | go_big_quiet_step ((first
                  | (go_at_call 54; exact ext_call (HN.out _))
                  | (go_at_call 52; exact ext_call (HBL.out _))
                  | (go_at_call 55; exact ext_call (HHAS.out _)))))
              refine wpQuiet_nil ?_
              rintro _ ⟨z, rfl⟩
              have HA := Lib.hid (HA.out.ext z.h)
              have KV := Lib.hid (KV.out.ext z.h)
              have K12 := Lib.hid (K12.out.ext z.h)
              have PR1 := Lib.hid (PR1.out.ext z.h)
              have B := Lib.hid (B.out.trans (z.h.mono B.out.size))
              generalize z.w = wk at *
              clear HHAS HBL HN NEQ RV gvl RP g12l q0
              have hdl := (HOK.out.good p hpL)
              have hdn := (patB_len hdl).1
              have hmd : (p.2.1.length : Int) ≤ 9223372036854775807 := by omega
              have BS := Lib.hid (Below.refl wk.heap.size wk)
              have q2 : wk.cell? ⟨g12, 2, none⟩ = some (.slice A1 p.2.1.length c1) := K12.out.cell 2
              clear hdl
              go_wp2_with fail
              clear q2
              go_loopw [16] (fun i wr => ∃ m : Nat, m ≤ p.2.1.length ∧ i = .int .i64 m ∧ Hid (Below wk.heap.size wk wr)) (fun i _ => p.2.1.length - (intOf i).toNat)
              case atStart => exact ⟨0, by omega, rfl, BS.out⟩
              case round =>
                clear BS
                obtain ⟨m, hmk, rfl, BQ⟩ := hrel
                have hm0 : (0 : Int) ≤ (m : Int) := by omega
                have KQ := Lib.hid (K12.out.ext BQ.out)
                have q2 : wr.cell? ⟨g12, 2, none⟩ = some (.slice A1 p.2.1.length c1) := KQ.out.cell 2
                by_cases hmlt : m < p.2.1.length
                · have hmlk : (m : Int) < (p.2.1.length : Int) := by omega
                  obtain ⟨⟨Ax, cx, Ay, cy, ex, hPx, _⟩, _, _⟩ := (PR1.out.ext BQ.out).at_
                  obtain ⟨rfl, rfl⟩ : A1 = Ax ∧ c1 = cx := by
                    unfold patC at ex
                    simp only [List.cons.injEq, Value.slice.injEq, true_and, and_true] at ex
                    exact ⟨ex.1.1, ex.1.2⟩
                  obtain ⟨b, o, d, rfl, hb, hd', R⟩ := hPx.at_ hmlt
                  have R := Lib.hid R
                  have hbl := Lib.hid hb
                  have KVQ := Lib.hid (KV.out.ext BQ.out)
                  have RV := Lib.hid (blk_vec KVQ.out)
                  have gvl : Hid (gv < wr.heap.size) := KVQ.out.lt
                  have q2' : ∀ z : Ext wr, z.w.cell? ⟨g12, 2, none⟩ = some (.slice (some ⟨b, o, none⟩) p.2.1.length c1) := fun z => (KQ.out.ext z.h).cell 2
                  have hdv := N3.out d (List.mem_of_getElem? hd')
                  have HH : Hid (∀ u : World, Calls Try.prog 22 #[.agg (v.map (Value.int .u16)).toArray, .agg (encP d).toArray] u (RetB u (.bool true))) := fun u => by
                    have := rhas_any v HV.out d.1.val ((d.2.val : Nat) : Int) ⟨by omega, by have := d.2.isLt; omega⟩ u
                    unfold hasP at hdv
                    rw [hdv] at this; exact this
                  clear ex hPx hd' hdv hb
                  go_upto_region 27 with fail
                  clear q2
                  refine wp_region_ext mixedS (by kernel_rfl) ?_
                  repeat (first
                    | (refine wpQuiet_load_mid (rangeAt_ext RV.out gvl.out) under64 rfl (info64' HV.out) rfl rfl ?_; simp only [List.set_cons_succ, List.set_cons_zero])
                    | (refine wpQuiet_load_mid (rangeAt_ext R.out hbl.out) underPid rfl infoPid rfl rfl ?_; simp only [List.set_cons_succ, List.set_cons_zero])
                    | go_big_quiet_step ((go_at_call 22; exact ext_call (HH.out _))))
                  refine wpQuiet_nil ?_
                  rintro _ ⟨z, rfl⟩
                  have BQ2 := Lib.hid (BQ.out.trans (z.h.mono BQ.out.size))
                  generalize z.w = wq at *
                  clear q2' HH R RV
                  go_wp2_with fail
                  go_roundw
                  case rel => exact ⟨m + 1, by omega, by go_num, BQ2.out⟩
                  case measure => simp [intOf]; omega
                · have hmlk : ¬ ((m : Int) < (p.2.1.length : Int)) := by omega
                  have HA := Lib.hid (HA.out.ext BQ.out)
                  have KV := Lib.hid (KV.out.ext BQ.out)
                  have B := Lib.hid (B.out.trans (BQ.out.mono B.out.size))
                  have h12 : Hid (¬ Fa g12) := fun e => by have := hFs.out g12 e; have := hg12.out; omega
                  clear BQ K12 PR1
                  have HPR := Lib.hid (prunePl_any HA.out v HV.out)
                  go_wp2_with (refine wpList_load_row rfl 25 _ (by rfl) gv (by rfl) _ _ _ _ KV.out under64 rfl hs1.out ?_)
                  refine HPR.out.mono ?_
                  rintro e wl ⟨rfl, kf, hpl⟩
                  have HA := Lib.hid hpl
                  have KL := Lib.hid (kf.blk KQ.out h12.out)
                  have B := Lib.hid (B.out.trans (kf.below (fun k e => hFaw.out k e) B.out.size))
                  clear kf hpl HPR q2 KQ KV
                  have RP := Lib.hid (patC_pid KL.out)
                  have HD := Lib.hid (dropPl_any HA.out p.1)
                  go_wp2_with (refine wpList_load_mid rfl 41 _ (by rfl) g12 0 (by rfl) _ _ RP.out underPid rfl infoPid ?_)
                  refine HD.out.mono ?_
                  rintro e wm ⟨he, kf, hpl⟩
                  rw [NF1.out] at he
                  subst he
                  have HA := Lib.hid hpl
                  have KL := Lib.hid (kf.blk KL.out h12.out)
                  have B := Lib.hid (B.out.trans (kf.below (fun k e => hFaw.out k e) B.out.size))
                  clear kf hpl HD RP
                  have RP := Lib.hid (patC_pid KL.out)
                  have HD := Lib.hid (dropPl_any HA.out p.1)
                  go_wp2_with (refine wpList_load_midG (by rfl) 41 _ (by rfl) g12 0 (by rfl) _ _ RP.out underPid rfl infoPid ?_)
                  refine HD.out.mono ?_
                  rintro e wn ⟨he, kf, hpl⟩
                  rw [NF2.out] at he
                  subst he
                  have B := Lib.hid (B.out.trans (kf.below (fun k e => hFaw.out k e) B.out.size))
                  clear kf hpl HD RP
                  go_wp2_with fail
                  refine (works32 _).mono ?_
                  rintro e wo ⟨rfl, bo⟩
                  have B := Lib.hid (B.out.trans (bo.mono B.out.size))
                  clear bo
                  go_wp2
                  go_ret
                  exact ⟨rfl, B.out⟩
end Go.Proofs.Ytnhbbggpgieipaa
