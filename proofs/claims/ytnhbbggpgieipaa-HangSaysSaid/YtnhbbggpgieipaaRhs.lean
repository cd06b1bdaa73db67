/- Texts of general use, one behind another. -/
import Derived.Test.YtnhbbggpgieipaaHange
import Derived.Test.YtnhbbggpgieipaaIdxs
import Derived.Test.YtnhbbggpgieipaaTops

/- The document's hang: where a patch stands: walked. -/
namespace Go.Proofs.Ytnhbbggpgieipaa
open Go.RowKit

theorem eqlPt {x y : PidV} (h : x = y) (u : World) : (binOp .eql 41 (.agg (encP x).toArray) (.agg (encP y).toArray)).run Try.prog u = .ok (.bool true) u := by rw [eqlP, decide_eq_true h]
theorem eqlPf {x y : PidV} (h : ¬ x = y) (u : World) : (binOp .eql 41 (.agg (encP x).toArray) (.agg (encP y).toArray)).run Try.prog u = .ok (.bool false) u := by rw [eqlP, decide_eq_false h]
theorem idxOf_first {D : List PidV} {d : PidV} {k : Nat} (h : D[k]? = some d) (hn : d ∉ D.take k) : D.idxOf d = k := by
  obtain ⟨hk, e⟩ := List.getElem?_eq_some_iff.1 h
  have e2 : D = D.take k ++ d :: D.drop (k + 1) := by rw [← e, List.getElem_cons_drop, List.take_append_drop]
  have e3 : (D.take k ++ d :: D.drop (k + 1)).idxOf d = k := by
    rw [List.idxOf_append, if_neg hn, List.idxOf_cons_self, List.length_take]; omega
  rw [← e2] at e3
  exact e3
theorem placeD_take {D : List PidV} {d : PidV} {k : Nat} (h : D[k]? = some d) (hn : d ∉ D.take k) : placeD D d = (k : Int) := by
  unfold placeD
  rw [if_pos (List.mem_of_getElem? h), idxOf_first h hn]
set_option maxRecDepth 100000 in
set_option maxHeartbeats 2000000 in
theorem find48r_any (l : List PatV) (w : World) (A : Option Addr) (n c : Nat) (hm : n ≤ maxLen) (h : PatsAt w A n l) (d : PidV) :
    Calls Try.prog 68 #[.slice A n c, .agg (encP d).toArray] w (RetB w (.int .i64 (placeD (l.map (·.1)) d))) := by
  unfold maxLen at hm
  have KP : Hid (Blk (w.alloc (.cells (encP d).toArray 41)) w.heap.size 41 (encP d).toArray) := Blk.new _ _ _
  have B0 : Hid (Below w.heap.size w (w.alloc (.cells (encP d).toArray 41))) := below_new _ _
  have PT := Lib.hid (h.ext B0.out)
  have hln := h.len
  clear h
  go_enter Try.func68, Try.ntmps68
  go_upto_region 1 with fail
  generalize (w.alloc (.cells (encP d).toArray 41)) = w2 at *
  obtain ⟨gd, hgd⟩ : ∃ gd, gd = w.heap.size := ⟨_, rfl⟩
  rw [← hgd] at KP ⊢
  replace hgd := Lib.hid hgd
  have BR := Lib.hid (Below.refl w2.heap.size w2)
  go_wp2_with fail
  go_loopw [5] (fun v wr => ∃ k : Nat, k ≤ n ∧ v = .int .i64 k ∧ Hid (d ∉ (l.map (·.1)).take k) ∧ Hid (Below w2.heap.size w2 wr)) (fun v _ => n - (intOf v).toNat)
  case atStart => exact ⟨0, by omega, rfl, fun h => by simp at h, BR.out⟩
  case round =>
    clear BR
    obtain ⟨k, hk, rfl, NI, B⟩ := hrel
    have hk0 : (0 : Int) ≤ (k : Int) := by omega
    by_cases hlt : k < n
    · have hlk : (k : Int) < (n : Int) := by omega
      obtain ⟨b, o, x, r, rfl, hb, hx, pa, hr⟩ := PT.out.at_ hlt
      obtain ⟨⟨A1, c1, A2, c2, rfl, _, _⟩, _, _⟩ := pa
      have RA := Lib.hid (rangeAt_below (pid_range hr) B.out hb)
      have KB := Lib.hid (KP.out.ext B.out)
      have QA : Hid (∀ w', (∃ n, w' = wr.drewN n) → w'.rangeAt b (o + k * 4) (encP x.1)) := by rintro _ ⟨n, rfl⟩; exact RA.out
      have QB : Hid (∀ w', (∃ n, w' = wr.drewN n) → w'.rangeAt gd 0 (encP d)) := by rintro _ ⟨n, rfl⟩; exact KB.out.range
      have HX : Hid ((l.map (·.1))[k]? = some x.1) := by rw [Hid, List.getElem?_map, hx]; rfl
      clear hr hb hx RA KB
      by_cases e : x.1 = d
      · have EQ := eqlPt e
        have N : Hid (placeD (l.map (·.1)) d = (k : Int)) := placeD_take (by rw [← e]; exact HX.out) NI.out
        clear e HX NI
        go_wp2_with fail
        refine wp_region_quiet_lit (by kernel_rfl) (by kernel_rfl) ?_
        repeat (first | (refine wpQuiet_load_mid QA.out underPid rfl infoPid rfl rfl ?_; simp only [List.set_cons_succ, List.set_cons_zero]) | (refine wpQuiet_load_mid QB.out underPid rfl infoPid rfl rfl ?_; simp only [List.set_cons_succ, List.set_cons_zero]) | go_big_quiet_step (fail))
        refine wpQuiet_nil ?_
        rintro _ ⟨nq, rfl⟩
        have BW := Lib.hid (B0.out.trans ((B.out.trans (below_drewN (Below.refl _ _) nq |>.mono B.out.size)).mono B0.out.size))
        go_wp2
        go_ret
        exact ⟨by rw [N.out]; rfl, BW.out⟩
      · have EQ := eqlPf e
        have NI2 : Hid (d ∉ (l.map (·.1)).take (k + 1)) := by
          rw [Hid, List.take_add_one, HX.out, List.mem_append]
          rintro (h | h)
          · exact NI.out h
          · simp only [Option.toList, List.mem_singleton] at h
            exact e h.symm
        clear e HX NI
        go_wp2_with fail
        refine wp_region_quiet_lit (by kernel_rfl) (by kernel_rfl) ?_
        repeat (first | (refine wpQuiet_load_mid QA.out underPid rfl infoPid rfl rfl ?_; simp only [List.set_cons_succ, List.set_cons_zero]) | (refine wpQuiet_load_mid QB.out underPid rfl infoPid rfl rfl ?_; simp only [List.set_cons_succ, List.set_cons_zero]) | go_big_quiet_step (fail))
        refine wpQuiet_nil ?_
        rintro _ ⟨nq, rfl⟩
        have B2 := Lib.hid (B.out.trans (below_drewN (Below.refl _ _) nq |>.mono B.out.size))
        clear B QA QB EQ
        generalize wr.drewN nq = w4 at *
        go_wp2_with fail
        go_roundw
        case rel => exact ⟨k + 1, by omega, by go_num, NI2.out, B2.out⟩
        case measure => simp [intOf]; omega
    · have hlk : ¬ (k : Int) < (n : Int) := by omega
      have N : Hid (placeD (l.map (·.1)) d = -1) := placeD_no fun h => NI.out (by rw [List.take_of_length_le (by rw [List.length_map]; omega)]; exact h)
      have BW := Lib.hid (B0.out.trans (B.out.mono B0.out.size))
      go_wp2
      go_ret
      exact ⟨by rw [N.out]; rfl, BW.out⟩
end Go.Proofs.Ytnhbbggpgieipaa

/- The document's hang is made out of patches: walked. -/
namespace Go.Proofs.Ytnhbbggpgieipaa
open Go.RowKit

/-- the document's hang as a value -/
def hang48V (A : Option Addr) (n c : Nat) : Array Value := #[.slice A n c]
def H8At (w : World) (v : Value) (l : List PatV) : Prop := ∃ A c, v = .agg (hang48V A (patsH l).length c) ∧ PatsAt w A (patsH l).length (patsH l)
theorem H8At.ext {w w' : World} {v : Value} {l : List PatV} (h : H8At w v l) (hb : Below w.heap.size w w') : H8At w' v l := by
  obtain ⟨A, c, h1, h2⟩ := h
  exact ⟨A, c, h1, h2.ext hb⟩
theorem patsH_take {l : List PatV} {k : Nat} {d : PidV} {p : PatV} (hd : (namesH l)[k]? = some d) (hp : findP l d = some p) : (patsH l).take (k + 1) = (patsH l).take k ++ [p] := by
  have hk : k < (patsH l).length := by rw [patsH_len]; exact (List.getElem?_eq_some_iff.1 hd).1
  obtain ⟨h1, h2⟩ := patsH_at (List.getElem?_eq_getElem hk)
  rw [hd] at h1
  injection h1 with h1
  rw [← h1, hp] at h2
  injection h2 with h2
  rw [List.take_add_one, List.getElem?_eq_getElem hk, ← h2]; rfl
/-- who is found by a name stands at the name's first place -/
theorem findP_idx {l : List PatV} {d : PidV} {p : PatV} (h : findP l d = some p) : ∃ i : Nat, l[i]? = some p ∧ placeD (l.map (·.1)) d = (i : Int) := by
  obtain ⟨j, hj, hn⟩ := findP_place h
  have hd := (findP_some h).2
  refine ⟨j, hj, placeD_take (by rw [List.getElem?_map, hj, ← hd]; rfl) ?_⟩
  rw [← hd, ← List.map_take]; exact hn
theorem names_found {l : List PatV} {k : Nat} {d : PidV} (h : (namesH l)[k]? = some d) : ∃ p, findP l d = some p := by
  cases hf : findP l d with
  | none =>
    obtain ⟨p, hp, e⟩ := (namesH_mem l d).1 (List.mem_of_getElem? h)
    exact absurd e (findP_none.1 hf p hp)
  | some p => exact ⟨p, rfl⟩
theorem underH8 : Try.prog.underlying 64 = some (.struct (Try.prog.fieldsOf 64)) := by kernel_rfl
theorem infoH8 : (Try.prog.info? 64).map (·.size) = some 1 := by kernel_rfl
theorem hang48V_one {A : Option Addr} {n c : Nat} : (hang48V A n c).all (·.oneCell') = true := by simp [hang48V, Value.oneCell']
theorem buildH8 (A : Option Addr) (n c : Nat) (w : World) : (Instr.build 64 #[(0, .slice A n c)]).run Try.prog w = .ok (.agg (hang48V A n c)) w := by kernel_rfl
theorem patsH_le (l : List PatV) : (patsH l).length ≤ l.length := by rw [patsH_len]; exact namesH_len l
def RetH8 (w : World) (l : List PatV) (e : Ending) (w' : World) : Prop := ∃ v, e = .returned v ∧ H8At w' v l ∧ Below w.heap.size w w'
set_option maxRecDepth 100000 in
set_option maxHeartbeats 8000000 in
theorem rof48_any {w : World} {A : Option Addr} {n c : Nat} {l : List PatV} (h : PatsAt w A n l) (hm : n ≤ 100) : Calls Try.prog 30 #[.slice A n c] w (RetH8 w l) := by
  have K0 : Hid (Blk (w.alloc (.cells #[.slice none 0 0] 64)) w.heap.size 64 #[.slice none 0 0]) := Blk.new _ _ _
  have B0 : Hid (Below w.heap.size w (w.alloc (.cells #[.slice none 0 0] 64))) := below_new _ _
  have PT := Lib.hid (h.ext B0.out)
  have PI := Lib.hid h.in_
  have hln := h.len
  clear h
  go_enter Try.func30, Try.ntmps30
  go_upto_region 1 with fail
  generalize (w.alloc (.cells #[.slice none 0 0] 64)) = w2 at *
  obtain ⟨gr, hgr⟩ : ∃ gr, gr = w.heap.size := ⟨_, rfl⟩
  rw [← hgr] at K0 ⊢
  replace hgr := Lib.hid hgr
  have BR := Lib.hid (Below.refl w2.heap.size w2)
  go_wp2_with fail
  go_loopw [4, 3] (fun v s wr => ∃ k : Nat, k ≤ n ∧ v = .int .i64 k ∧ Hid (wr.ownsRow w2.heap.size 41 2 s k (((l.take k).map (·.1)).flatMap encP)) ∧ Hid (Below w2.heap.size w2 wr)) (fun v _ _ => n - (intOf v).toNat)
  case atStart => exact ⟨0, by omega, rfl, World.ownsRow_nil _ _ _ _, BR.out⟩
  case round =>
    clear BR
    obtain ⟨k, hk, rfl, O, B⟩ := hrel
    have hk0 : (0 : Int) ≤ (k : Int) := by omega
    have hbs := B.out.size
    by_cases hlt : k < n
    · have hlk : (k : Int) < (n : Int) := by omega
      obtain ⟨b, o, x, r, rfl, hb, hx, pa, hr⟩ := PT.out.at_ hlt
      obtain ⟨⟨A1, c1, A2, c2, rfl, _, _⟩, _, _⟩ := pa
      have RA := Lib.hid (rangeAt_below (pid_range hr) B.out hb)
      have HT := Lib.hid (names_take hx)
      clear hr hb hx
      go_wp2_with (first
        | (refine wpList_load_mid rfl 41 _ (by rfl) b (o + k * 4) (by rfl) _ _ RA.out underPid rfl infoPid ?_)
        | (refine wpList_lit1 pidSl (encP_len x.1) (by omega) (by rfl) ?_)
        | (at_builtin; refine wpList_push pidSl O.out (encP x.1) rfl (encP_one _) hbs (by omega) (by unfold maxLen; omega) (by rfl) (by rfl) (by rfl) ?_; intro v1 w5 own1 bel1))
      have B5 := Lib.hid (B.out.trans bel1)
      have O5 : Hid (w5.ownsRow w2.heap.size 41 2 v1 (k + 1) (((l.take (k + 1)).map (·.1)).flatMap encP)) := by
        rw [Hid, HT.out, flat_snocP]; exact own1
      clear own1 bel1 O B RA
      go_roundw
      case rel => exact ⟨k + 1, by omega, by go_num, O5.out, B5.out⟩
      case measure => simp [intOf]; omega
    · have hlk : ¬ (k : Int) < (n : Int) := by omega
      obtain rfl : n = k := by omega
      rw [List.take_of_length_le (by omega)] at O
      obtain ⟨An, cn, rfl, _, pn⟩ := PidsAt.of_own O.out (by rw [List.length_map]; exact hln)
      have HS := Lib.hid (rsetP_own (l.map (·.1)) wr An n cn pn (by omega))
      clear pn O
      go_wp2_with fail
      refine HS.out.mono ?_
      rintro e w3 ⟨vD, rfl, oD, bD⟩
      obtain ⟨AD, cD, rfl, _, pD⟩ := PidsAt.of_own oD rfl
      have PD : Hid (PidsAt w3 AD (namesH l).length (namesH l)) := pD
      have DE : Hid ((setK keyP (l.map (·.1))).length = (namesH l).length) := rfl
      have B3 := Lib.hid (B.out.trans (bD.mono B.out.size))
      have PT3 := Lib.hid (PT.out.ext B3.out)
      have K3 := Lib.hid (K0.out.ext B3.out)
      have BW3 := Lib.hid (B0.out.trans (B3.out.mono B0.out.size))
      have hDl := namesH_len l
      have hgl : Hid (gr < w3.heap.size) := K3.out.lt
      clear oD bD pD HS B PT K0 B0
      rw [DE.out]
      have BR := Lib.hid (Below.refl w3.heap.size w3)
      have R0 : Hid (∃ rows, w3.ownsRow w3.heap.size 45 4 (.slice none 0 0) 0 rows.flatten ∧ RowsIn w3 (fun k => k < w.heap.size) rows ((patsH l).take 0)) := ⟨[], World.ownsRow_nil _ _ _ _, RowsIn.nil _ _⟩
      go_wp2_with fail
      go_loopw [6, 5] (fun v s wr => ∃ k : Nat, k ≤ (namesH l).length ∧ v = .int .i64 k ∧ Hid (∃ rows, wr.ownsRow w3.heap.size 45 4 s k rows.flatten ∧ RowsIn wr (fun k => k < w.heap.size) rows ((patsH l).take k)) ∧ Hid (Below w3.heap.size w3 wr)) (fun v _ _ => (namesH l).length - (intOf v).toNat)
      case atStart => exact ⟨0, by omega, rfl, R0.out, BR.out⟩
      case round =>
        clear BR R0
        obtain ⟨k, hk, rfl, OR, B⟩ := hrel
        have hk0 : (0 : Int) ≤ (k : Int) := by omega
        have hbs := B.out.size
        by_cases hlt : k < (namesH l).length
        · have hlk : (k : Int) < ((namesH l).length : Int) := by omega
          obtain ⟨b, o, d, rfl, hb, hd, hr⟩ := (PD.out.ext B.out).at_ hlt
          have RD := Lib.hid hr
          obtain ⟨p, hp⟩ := names_found hd
          have HT := Lib.hid (patsH_take hd hp)
          obtain ⟨i, hi, hpi⟩ := findP_idx hp
          have hil : i < n := by have := (List.getElem?_eq_some_iff.1 hi).1; omega
          have PTB := Lib.hid (PT3.out.ext B.out)
          have HF := Lib.hid (find48r_any l wr A n c (by unfold maxLen; omega) PTB.out d)
          rw [hpi] at HF
          have hi0 : (0 : Int) ≤ (i : Int) := by omega
          have hik : (i : Int) < (n : Int) := by omega
          have HI := Lib.hid hi
          clear hr hb hd hp hpi hi
          go_wp2_with (refine wpList_load_mid rfl 41 _ (by rfl) b (o + k * 2) (by rfl) _ _ RD.out underPid rfl infoPid ?_)
          refine HF.out.mono ?_
          rintro e w5 ⟨rfl, b5⟩
          obtain ⟨rows, orow, rp⟩ := OR.out
          have BW5 : Below w.heap.size w w5 := BW3.out.trans ((B.out.trans (b5.mono B.out.size)).mono BW3.out.size)
          obtain ⟨b2, o2, p2, r2, rfl, hb2, hp2, pa, hr2⟩ := (PI.out.stay (Stay.of_below BW5)).pat_ hil
          obtain rfl : p2 = p := by have := HI.out; rw [hp2] at this; exact Option.some.inj this
          have PA := Lib.hid pa
          have R2 := Lib.hid hr2
          have O5 := Lib.hid (own_ext orow b5)
          have RP5 : Hid (RowsIn w5 (fun k => k < w.heap.size) rows ((patsH l).take k)) := rp.stay (Stay.of_below b5)
          have B5 := Lib.hid (B.out.trans (b5.mono B.out.size))
          have hbs5 := B5.out.size
          have hww : Hid (w.heap.size ≤ w3.heap.size) := BW3.out.size
          clear orow rp hb2 hp2 pa hr2 b5 OR B HF RD BW5
          go_wp2_with (first
            | (refine wpList_load_mid rfl 45 _ (by rfl) b2 (o2 + i * 4) (by rfl) _ _ R2.out underPat rfl (by rw [PA.out.len4]; exact infoPat) ?_)
            | (refine wpList_lit1 patSl PA.out.len4 (by omega) (by rfl) ?_)
            | (at_builtin; refine wpList_pushF patSl O5.out r2 PA.out.len4 PA.out.one hbs5 (by omega) (by unfold maxLen; omega) (by rfl) (by rfl) (by rfl) ?_; intro v1 w6 own1 kp hv1))
          have B6 : Hid (Below w3.heap.size w3 w6) := B5.out.trans (kp.below (fun k e => (O5.out.lt k e).1) B5.out.size)
          have RP6 : Hid (RowsIn w6 (fun k => k < w.heap.size) (rows ++ [r2]) ((patsH l).take (k + 1))) := by
            rw [Hid, HT.out]
            exact (RP5.out.snoc PA.out).stay (kp.stay fun k _ hg e => by have := (O5.out.lt k e).1; have := hww.out; omega)
          have O6 : Hid (∃ rows, w6.ownsRow w3.heap.size 45 4 v1 (k + 1) rows.flatten ∧ RowsIn w6 (fun k => k < w.heap.size) rows ((patsH l).take (k + 1))) := ⟨rows ++ [r2], by rw [List.flatten_append]; simpa using own1, RP6.out⟩
          clear own1 kp hv1 O5 RP5 B5 PA R2 RP6
          go_roundw
          case rel => exact ⟨k + 1, by omega, by go_num, O6.out, B6.out⟩
          case measure => simp [intOf]; omega
        · have hlk : ¬ (k : Int) < ((namesH l).length : Int) := by omega
          have hkl : k = (patsH l).length := by rw [patsH_len]; omega
          obtain ⟨rows, orow, ri⟩ := OR.out
          rw [List.take_of_length_le (by omega)] at ri
          have hke : Hid (k = (patsH l).length) := hkl
          rw [hkl] at orow
          obtain ⟨A5, c5, e5, _, _⟩ := Sl.of_own orow
          subst e5
          have KB := Lib.hid (K3.out.ext B.out)
          have KR := Lib.hid (KB.out.row (hang48V A5 (patsH l).length c5))
          have BW := Lib.hid (BW3.out.trans (B.out.mono BW3.out.size))
          have BB : Hid (Below w.heap.size w (wr.setRow gr (hang48V A5 (patsH l).length c5))) := below_setRow BW.out (by rw [hgr.out]; exact Nat.le_refl _) _
          have KK : Kept (fun k => k = gr) wr (wr.setRow gr (hang48V A5 (patsH l).length c5)) := ⟨rfl, rfl, rfl, by simp, fun k _ hne => setRow_other wr gr k _ hne⟩
          have O6 := own_keepF orow fun k e => KK.block k (orow.lt k e).2 (own_ne_blk orow KB.out (by decide) e)
          have HF : Hid (H8At (wr.setRow gr (hang48V A5 (patsH l).length c5)) (.agg (hang48V A5 (patsH l).length c5)) l) := by
            refine ⟨A5, c5, rfl, rfl, rows, (ri.stay (KK.stay fun k _ hg e => ?_)).rowsP, ?_⟩
            · have := hgr.out; omega
            · obtain ⟨A7, c7, e7, _, sl7⟩ := Sl.of_own O6
              cases e7; exact sl7
          clear orow ri KK O6 OR B BW BW3 K3 PT3 PD
          go_wp2_with (first
            | (refine wpList_built (buildH8 _ _ _ _) (by rfl) ?_)
            | (refine wpList_store_row rfl 64 _ _ (by rfl) gr (hang48V A5 (patsH l).length c5) (by rfl) (by rfl) _ _ KB.out infoH8 rfl hang48V_one ?_))
          refine bodyPost_ret (v := .agg (hang48V A5 (patsH l).length c5)) (results_cell_row rfl _ _ gr 64 _ (0, 0) _ (by rfl) KR.out underH8 rfl infoH8) rfl ⟨_, rfl, HF.out, BB.out⟩
end Go.Proofs.Ytnhbbggpgieipaa

/- All things one behind another, as the document tells them: walked. -/
namespace Go.Proofs.Ytnhbbggpgieipaa
open Go.RowKit

set_option maxRecDepth 100000 in
set_option maxHeartbeats 8000000 in
theorem rorder9_any {w : World} {v : Value} {n : Nat} {R : Nat → Nat → Bool} (h : R8At w v n R) : Calls Try.prog 80 #[v] w (RetNs w (ordR R n)) := by
  have hn0 := h.1
  have T := Lib.hid h.trans
  obtain ⟨A8, m8, c8, rfl⟩ := h.boxed
  have B0 : Hid (Below w.heap.size w (w.alloc (.cells (rel8V n A8 m8 c8) 110))) := below_new _ _
  have K0 : Hid (Blk (w.alloc (.cells (rel8V n A8 m8 c8) 110)) w.heap.size 110 (rel8V n A8 m8 c8)) := Blk.new _ _ _
  have H := Lib.hid (h.ext B0.out)
  clear h
  go_enter Try.func80, Try.ntmps80
  go_upto_region 1 with fail
  generalize w.alloc (.cells (rel8V n A8 m8 c8) 110) = w0 at *
  obtain ⟨gb, hgb⟩ : ∃ g, g = w.heap.size := ⟨_, rfl⟩
  rw [← hgb] at K0 ⊢
  replace hgb := Lib.hid hgb
  have BR := Lib.hid (Below.refl w0.heap.size w0)
  go_wp2_with fail
  go_loopw [3] (fun s wr => ∃ (m c' : Nat) (A' : Option Addr), s = .slice A' (ordAt R n m).length c' ∧ Hid (wr.ownsRow w0.heap.size 3 1 (.slice A' (ordAt R n m).length c') (ordAt R n m).length (encN (ordAt R n m))) ∧ Hid (Below w0.heap.size w0 wr)) (fun s _ => n - lenV s)
  case atStart => exact ⟨0, 0, none, rfl, World.ownsRow_nil _ _ _ _, BR.out⟩
  case round =>
    clear BR
    obtain ⟨m, c', A', rfl, O, B⟩ := hrel
    have KB := Lib.hid (K0.out.ext B.out)
    have y0 : wr.cell? ⟨gb, 0, none⟩ = some (.int .i64 (n : Int)) := KB.out.cell 0
    have TD := Lib.hid (ordAt_told T.out m).1
    have NX := Lib.hid (fun h => ordAt_next (R := R) (n := n) (k := m) h)
    have DN := Lib.hid (fun h => ordAt_done T.out (k := m) h)
    generalize ordAt R n m = out at *
    have hle := TD.out.le
    by_cases hlt : out.length < n
    · have hlk : ((out.length : Nat) : Int) < (n : Int) := by omega
      go_wp2_with fail
      clear y0 KB
      go_loopw [4, 3] (fun u s3 wr => ∃ g : Nat, g ≤ n ∧ u = .int .i64 g ∧ s3 = .slice A' out.length c' ∧ Hid (∀ j, j < g → mayG R n out j = false) ∧ Hid (wr.ownsRow w0.heap.size 3 1 (.slice A' out.length c') out.length (encN out)) ∧ Hid (Below w0.heap.size w0 wr)) (fun u _ _ => n - (intOf u).toNat)
      case atStart => exact ⟨0, by omega, rfl, rfl, fun _ h => by omega, O.out, B.out⟩
      case round =>
        clear O B
        obtain ⟨g, hg, rfl, rfl, N, O, B⟩ := hrel
        have hg0 : (0 : Int) ≤ (g : Int) := by omega
        have KB := Lib.hid (K0.out.ext B.out)
        have y0 : wr.cell? ⟨gb, 0, none⟩ = some (.int .i64 (n : Int)) := KB.out.cell 0
        by_cases hgn : g < n
        · have hgk : (g : Int) < (n : Int) := by omega
          have HG := Lib.hid (group8r_any (H.out.ext B.out) hgn)
          have NN : Hid (mayG R n out g = false → ∀ j, j < g + 1 → mayG R n out j = false) := fun h j hj => by
            rcases Nat.lt_or_ge j g with h4 | h4
            · exact N.out j h4
            · obtain rfl : j = g := by omega
              exact h
          have MG : Hid (mayG R n out g = ((groupR R g == g) && (!(decide (g ∈ out)) && freeR R n out g))) := rfl
          generalize hq : groupR R g = q at *
          go_wp2_with (refine wpList_load_row rfl 110 _ (by rfl) gb (by rfl) _ _ _ _ KB.out underR8 rfl infoR8 ?_)
          refine HG.out.mono ?_
          rintro e w1 ⟨rfl, b1⟩
          have B1 := Lib.hid (B.out.trans (b1.mono B.out.size))
          have O1 := Lib.hid (own_ext O.out b1)
          have KB := Lib.hid (K0.out.ext B1.out)
          clear b1 HG B O y0
          by_cases h1 : q = g
          · have e1 : decide ((q : Int) = (g : Int)) = true := decide_eq_true (by omega)
            have e5 : ((q : Int) == (g : Int)) = true := by rw [beq_iff_eq]; omega
            have e1' := decide_eq_true h1
            obtain ⟨A1, c1, ee, _, sl⟩ := Sl.of_own O1.out
            cases ee
            have SL := Lib.hid sl
            have HI := Lib.hid (in9_any (c := c') sl (by omega) (g : Int))
            rw [inI_nat] at HI
            clear sl
            by_cases h2 : g ∈ out
            · rw [decide_eq_true h2] at HI
              have N2 := Lib.hid (NN.out (by rw [MG.out, decide_eq_true h2]; simp))
              go_wp2_with fail
              refine HI.out.mono ?_
              rintro e w2 ⟨rfl, rfl⟩
              go_wp2_with fail
              go_roundw
              case rel => exact ⟨g + 1, by omega, by go_num, rfl, N2.out, O1.out, B1.out⟩
              case measure => simp [intOf]; omega
            · rw [decide_eq_false h2] at HI
              have HF := Lib.hid (free9_any (c := c') (H.out.ext B1.out) SL.out (by omega) g)
              go_wp2_with fail
              refine HI.out.mono ?_
              rintro e w2 ⟨rfl, rfl⟩
              cases h3 : freeR R n out g
              · rw [h3] at HF
                have N2 := Lib.hid (NN.out (by rw [MG.out, h3]; simp))
                go_wp2_with (refine wpList_load_rowG (by rfl) 110 _ (by rfl) gb (by rfl) _ _ _ _ KB.out underR8 rfl infoR8 ?_)
                refine HF.out.mono ?_
                rintro e w3 ⟨rfl, b3⟩
                have B3 := Lib.hid (B1.out.trans (b3.mono B1.out.size))
                have O3 := Lib.hid (own_ext O1.out b3)
                clear b3 B1 O1 KB HF SL
                go_wp2_with fail
                go_roundw
                case rel => exact ⟨g + 1, by omega, by go_num, rfl, N2.out, O3.out, B3.out⟩
                case measure => simp [intOf]; omega
              · rw [h3] at HF
                have PK : Hid (ordAt R n (m + 1) = out ++ grpI R g n) := by
                  rw [Hid, NX.out hlt, pickG_at hgn (by rw [MG.out, h3, decide_eq_false h2, h1]; simp) N.out]; rfl
                go_wp2_with (refine wpList_load_rowG (by rfl) 110 _ (by rfl) gb (by rfl) _ _ _ _ KB.out underR8 rfl infoR8 ?_)
                refine HF.out.mono ?_
                rintro e w3 ⟨rfl, b3⟩
                have B3 := Lib.hid (B1.out.trans (b3.mono B1.out.size))
                have O3 := Lib.hid (own_ext O1.out b3)
                have M0 : Hid (out = out ++ grpI R g 0) := by rw [Hid]; simp [grpI]
                clear b3 B1 O1 KB HF SL N NN MG
                go_wp2_with fail
                try simp only [e5]
                clear e1 e1' e5
                go_loopw [5, 3] (fun u s wr => ∃ (i c' : Nat) (A' : Option Addr) (M : List Nat), i ≤ n ∧ u = .int .i64 i ∧ s = .slice A' M.length c' ∧ Hid (M = out ++ grpI R g i) ∧ Hid (wr.ownsRow w0.heap.size 3 1 (.slice A' M.length c') M.length (encN M)) ∧ Hid (Below w0.heap.size w0 wr)) (fun u _ _ => n - (intOf u).toNat)
                case atStart => exact ⟨0, c', A', out, by omega, rfl, rfl, M0.out, O3.out, B3.out⟩
                case round =>
                  clear O3 B3 M0
                  obtain ⟨i, c2, A2, M, hi, rfl, rfl, HM, O, B⟩ := hrel
                  have hi0 : (0 : Int) ≤ (i : Int) := by omega
                  have KB := Lib.hid (K0.out.ext B.out)
                  have y0 : wr.cell? ⟨gb, 0, none⟩ = some (.int .i64 (n : Int)) := KB.out.cell 0
                  have hol : M.length ≤ 131072 := by have := grpI_len R g i; have h9 := congrArg List.length HM.out; rw [List.length_append] at h9; omega
                  by_cases hin : i < n
                  · have hik : (i : Int) < (n : Int) := by omega
                    have HG := Lib.hid (group8r_any (H.out.ext B.out) hin)
                    have Y := Lib.hid (fun h => grpI_yes (R := R) (g := g) (i := i) h)
                    have NY := Lib.hid (fun h => grpI_no (R := R) (g := g) (i := i) h)
                    generalize groupR R i = q2 at *
                    go_wp2_with (refine wpList_load_row rfl 110 _ (by rfl) gb (by rfl) _ _ _ _ KB.out underR8 rfl infoR8 ?_)
                    refine HG.out.mono ?_
                    rintro e w4 ⟨rfl, b4⟩
                    have B4 := Lib.hid (B.out.trans (b4.mono B.out.size))
                    have O4 := Lib.hid (own_ext O.out b4)
                    clear b4 HG B O y0 KB
                    by_cases h5 : q2 = g
                    · have e1 : decide ((q2 : Int) = (g : Int)) = true := decide_eq_true (by omega)
                      have e5 : ((q2 : Int) == (g : Int)) = true := by rw [beq_iff_eq]; omega
                      have e1' := decide_eq_true h5
                      have E2 : Hid (M ++ [i] = out ++ grpI R g (i + 1)) := by rw [Hid, Y.out h5, HM.out, List.append_assoc]
                      have G : Hid (w0.heap.size ≤ w4.heap.size) := B4.out.size
                      go_wp2_with (at_builtin; refine wpList_pushF intSlH O4.out [.int .i64 (i : Int)] rfl (by simp [Value.oneCell']) G.out (by omega) (by unfold maxLen; omega) (by rfl) (by rfl) (by rfl) ?_; intro v1 w6 own1 kp hv1)
                      obtain ⟨A6, c6, rfl, _, _⟩ := Sl.of_own own1
                      have B6 := Lib.hid (B4.out.trans (kp.below (fun k e => (O4.out.lt k e).1) B4.out.size))
                      have O6 : Hid (w6.ownsRow w0.heap.size 3 1 (.slice A6 (M ++ [i]).length c6) (M ++ [i]).length (encN (M ++ [i]))) := by rw [Hid, List.length_append, encN_snoc]; exact own1
                      clear own1 kp hv1 O4 B4
                      go_roundw
                      case rel => exact ⟨i + 1, c6, A6, M ++ [i], by omega, by go_num, by rw [List.length_append]; rfl, E2.out, O6.out, B6.out⟩
                      case measure => simp [intOf]; omega
                    · have e1 : decide ((q2 : Int) = (g : Int)) = false := decide_eq_false (by omega)
                      have e5 : ((q2 : Int) == (g : Int)) = false := by rw [beq_eq_false_iff_ne]; omega
                      have e1' := decide_eq_false h5
                      have E2 : Hid (M = out ++ grpI R g (i + 1)) := by rw [Hid, HM.out, NY.out h5]
                      go_wp2_with fail
                      go_roundw
                      case rel => exact ⟨i + 1, c2, A2, M, by omega, by go_num, rfl, E2.out, O4.out, B4.out⟩
                      case measure => simp [intOf]; omega
                  · have hik : ¬ (i : Int) < (n : Int) := by omega
                    obtain rfl : i = n := by omega
                    have HM2 : Hid (M = ordAt R i (m + 1)) := HM.out.trans PK.out.symm
                    have L1 : Hid (out.length < M.length) := by
                      have h9 : g ∈ grpI R g i := by unfold grpI; exact List.mem_filter.2 ⟨List.mem_range.2 hgn, by rw [hq, h1, beq_self_eq_true]⟩
                      have := List.length_pos_of_mem h9
                      rw [Hid, HM.out, List.length_append]; omega
                    go_wp2_with fail
                    go_roundw
                    case rel => exact ⟨m + 1, c2, A2, by rw [← HM2.out], by rw [← HM2.out]; exact O.out, B.out⟩
                    case measure =>
                      show i - lenV (.slice A2 M.length c2) < i - lenV (.slice A' out.length c')
                      have := L1.out
                      simp only [lenV]; omega
          · have e1 : decide ((q : Int) = (g : Int)) = false := decide_eq_false (by omega)
            have e5 : ((q : Int) == (g : Int)) = false := by rw [beq_eq_false_iff_ne]; omega
            have e1' := decide_eq_false h1
            have N2 := Lib.hid (NN.out (by rw [MG.out, beq_eq_false_iff_ne.2 h1]; rfl))
            go_wp2_with fail
            go_roundw
            case rel => exact ⟨g + 1, by omega, by go_num, rfl, N2.out, O1.out, B1.out⟩
            case measure => simp [intOf]; omega
        · exfalso
          obtain ⟨g', _, _, h1, h2⟩ := pick_there T.out TD.out hlt
          rw [N.out g' (by omega)] at h2
          cases h2
    · have hlk : ¬ ((out.length : Nat) : Int) < (n : Int) := by omega
      have E := Lib.hid (DN.out hlt)
      have BB := Lib.hid (B0.out.trans (B.out.mono B0.out.size))
      have OO := Lib.hid (own_rebase (base' := w.heap.size) O.out fun k e => Nat.le_trans B0.out.size (O.out.lt k e).1)
      go_wp2
      go_ret
      exact ⟨A', c', by rw [← E.out]; rfl, by rw [← E.out]; exact OO.out, BB.out⟩
end Go.Proofs.Ytnhbbggpgieipaa

/- The document's steps, and what they lead to: walked. -/
namespace Go.Proofs.Ytnhbbggpgieipaa
open Go.RowKit

/-- the steps of the first patches -/
def refT (D : List PidV) (ps : List PatV) : Nat → List (Int × Int)
  | 0 => []
  | i + 1 => refT D ps i ++ (match ps[i]? with | some p => p.2.1.map fun d => (placeD D d, (i : Int)) | none => [])
theorem refT_eq (D : List PidV) (ps : List PatV) : ∀ i, i ≤ ps.length → refT D ps i = refS D (ps.take i)
  | 0, _ => by simp [refT, refS]
  | i + 1, h => by
    rw [refT, refT_eq D ps i (by omega), List.getElem?_eq_getElem (by omega), List.take_add_one, List.getElem?_eq_getElem (by omega)]
    unfold refS
    rw [List.mapIdx_append, List.flatten_append]
    simp [List.length_take, Nat.min_eq_left (show i ≤ ps.length by omega)]
theorem refT_all (D : List PidV) (ps : List PatV) : refT D ps ps.length = refS D ps := by rw [refT_eq D ps _ (Nat.le_refl _), List.take_length]
theorem refT_next {D : List PidV} {ps : List PatV} {i : Nat} {p : PatV} (h : ps[i]? = some p) : refT D ps (i + 1) = refT D ps i ++ p.2.1.map fun d => (placeD D d, (i : Int)) := by rw [refT, h]
theorem refT_len {D : List PidV} {ps : List PatV} {m : Nat} (hl : ∀ p ∈ ps, p.2.1.length ≤ m) : ∀ k, (refT D ps k).length ≤ k * m
  | 0 => by simp [refT]
  | k + 1 => by
    have ih := refT_len (D := D) hl k
    have e : (k + 1) * m = k * m + m := Nat.succ_mul k m
    cases hk : ps[k]? with
    | none => rw [refT, hk]; simp only [List.append_nil]; omega
    | some p =>
      rw [refT_next hk, List.length_append, List.length_map]
      have h2 := hl p (List.mem_of_getElem? hk)
      omega
/-- a struct with a slice in it is no row of steps -/
theorem sl_ne {w : World} {B g : Nat} {A : Option Addr} {L : List (Nat × Nat)} {t : TypeId} {z : Int} {X : Option Addr} {y u : Nat} (h : Sl w B 2 A L.length (L.flatMap encS)) (hb : Blk w g t #[.int .i64 z, .slice X y u]) {b o : Nat} (hA : A = some ⟨b, o, none⟩) (hL : 0 < L.length) : b ≠ g := by
  rintro rfl
  obtain ⟨b', o', e, _, hr⟩ := h.rowAt (enc := encS) rfl (fun x _ => rfl) hL
  rw [hA] at e
  injection e with e
  injection e with e1 e2 _
  subst e1 e2
  have h1 := hr 1 _ rfl
  rw [hb.cell] at h1
  match o, h1 with
  | 0, h1 => simp at h1
  | k + 1, h1 =>
    rw [Array.getElem?_eq_none (by simp)] at h1
    cases h1
theorem sl_setRow {w : World} {g : Nat} {A : Option Addr} {L : List (Nat × Nat)} {t : TypeId} {z : Int} {X : Option Addr} {y u : Nat} (h : Sl w w.heap.size 2 A L.length (L.flatMap encS)) (hb : Blk w g t #[.int .i64 z, .slice X y u]) (cs : Array Value) : Sl (w.setRow g cs) (w.setRow g cs).heap.size 2 A L.length (L.flatMap encS) := by
  refine ⟨h.1, fun hn => ?_⟩
  obtain ⟨b, o, e, hbl, hc⟩ := h.2 hn
  exact ⟨b, o, e, by simpa using hbl, fun j hj => (World.cell?_of_block (a := ⟨b, o + j, none⟩) (setRow_other w g b cs (sl_ne h hb e hn))).trans (hc j hj)⟩
theorem buildI2 (a b : Int) (w : World) : (Instr.build 101 #[(0, .int .i64 a), (1, .int .i64 b)]).run Try.prog w = .ok (.agg (encI (a, b)).toArray) w := by
  unfold encI
  simp [go_sem, Instr.build]
set_option maxRecDepth 100000 in
set_option maxHeartbeats 8000000 in
theorem rrel48_any {w : World} {v : Value} {l : List PatV} (h : H8At w v l) (hm : (patsH l).length ≤ 100) (hq : ∀ p ∈ patsH l, p.2.1.length ≤ 1000) :
    Calls Try.prog 74 #[v] w (RetR8 w (patsH l).length (okS (patsH l).length (refS (namesH l) (patsH l)))) := by
  obtain ⟨A, c, rfl, PT⟩ := h
  have PN := Lib.hid (patsH_names l)
  have RTA := Lib.hid (refT_all (namesH l) (patsH l))
  have HQ := Lib.hid hq
  generalize namesH l = D at *
  generalize patsH l = ps at *
  have KH : Hid (Blk ((w.alloc (.cells (hang48V A ps.length c) 64)).alloc (.cells #[.int .i64 0, .slice none 0 0] 110)) w.heap.size 64 (hang48V A ps.length c)) := (Blk.new _ _ _).alloc _
  have K0 : Hid (Blk ((w.alloc (.cells (hang48V A ps.length c) 64)).alloc (.cells #[.int .i64 0, .slice none 0 0] 110)) (w.heap.size + 1) 110 #[.int .i64 0, .slice none 0 0]) := Blk.newAt (by simp) _ _
  have B0 : Hid (Below w.heap.size w ((w.alloc (.cells (hang48V A ps.length c) 64)).alloc (.cells #[.int .i64 0, .slice none 0 0] 110))) := ((Below.refl _ _).alloc (Nat.le_refl _) _).alloc (by simp) _
  have PT2 := Lib.hid (PT.ext B0.out)
  clear PT hq
  go_enter Try.func74, Try.ntmps74
  go_upto_region 1 with fail
  generalize (w.alloc (.cells (hang48V A ps.length c) 64)).alloc (.cells #[.int .i64 0, .slice none 0 0] 110) = w2 at *
  obtain ⟨gr, hgr⟩ : ∃ gr, gr = w.heap.size + 1 := ⟨_, rfl⟩
  obtain ⟨gh, hgh⟩ : ∃ gh, gh = w.heap.size := ⟨_, rfl⟩
  rw [← hgr] at K0 ⊢
  rw [← hgh] at KH ⊢
  have hge : Hid (w.heap.size ≤ gr) := by rw [Hid]; omega
  clear hgr hgh
  have BR := Lib.hid (Below.refl w2.heap.size w2)
  go_wp2_with fail
  go_loopw [4, 3] (fun v s wr => ∃ i : Nat, i ≤ ps.length ∧ v = .int .i64 i ∧ Hid (wr.ownsRow w2.heap.size 101 2 s (refT D ps i).length ((refT D ps i).flatMap encI)) ∧ Hid (Below w2.heap.size w2 wr)) (fun v _ _ => ps.length - (intOf v).toNat)
  case atStart => exact ⟨0, by omega, rfl, World.ownsRow_nil _ _ _ _, BR.out⟩
  case round =>
    clear BR
    obtain ⟨i, hi, rfl, O, B⟩ := hrel
    have hi0 : (0 : Int) ≤ (i : Int) := by omega
    have y0 : wr.cell? ⟨gh, 0, none⟩ = some (.slice A ps.length c) := (KH.out.ext B.out).cell 0
    by_cases hlt : i < ps.length
    · have hlk : (i : Int) < (ps.length : Int) := by omega
      obtain ⟨b, o, p, r, rfl, hb, hp, pa, hr⟩ := PT2.out.at_ hlt
      have HP := Lib.hid hp
      have hpq := HQ.out p (List.mem_of_getElem? hp)
      have hTl : (refT D ps i).length ≤ 100000 := by
        have := refT_len (D := D) (m := 1000) HQ.out i
        have : i * 1000 ≤ 100 * 1000 := Nat.mul_le_mul_right _ (by omega)
        omega
      obtain ⟨⟨A1, c1, A2, c2, rfl, pD1, _⟩, _, _⟩ := pa
      have PD := Lib.hid pD1
      have R := Lib.hid hr
      have hb := Lib.hid hb
      obtain ⟨A8, c8, rfl, _, _⟩ := Sl.of_own O.out
      have O0 : Hid (wr.ownsRow w2.heap.size 101 2 (.slice A8 (refT D ps i).length c8) (refT D ps i ++ (p.2.1.take 0).map fun d => (placeD D d, (i : Int))).length ((refT D ps i ++ (p.2.1.take 0).map fun d => (placeD D d, (i : Int))).flatMap encI)) := by
        have e : refT D ps i ++ (p.2.1.take 0).map (fun d => (placeD D d, (i : Int))) = refT D ps i := by simp
        rw [e]; exact O.out
      clear hr hp pD1 O
      go_wp2_with fail
      clear y0
      go_loopw [5, 3] (fun v s wr => ∃ k : Nat, k ≤ p.2.1.length ∧ v = .int .i64 k ∧ Hid (wr.ownsRow w2.heap.size 101 2 s (refT D ps i ++ (p.2.1.take k).map fun d => (placeD D d, (i : Int))).length ((refT D ps i ++ (p.2.1.take k).map fun d => (placeD D d, (i : Int))).flatMap encI)) ∧ Hid (Below w2.heap.size w2 wr)) (fun v _ _ => p.2.1.length - (intOf v).toNat)
      case atStart => exact ⟨0, by omega, rfl, O0.out, B.out⟩
      case round =>
        clear O0 B
        obtain ⟨k, hk, rfl, O, B⟩ := hrel
        have hk0 : (0 : Int) ≤ (k : Int) := by omega
        have y0 : wr.cell? ⟨gh, 0, none⟩ = some (.slice (some ⟨b, o, none⟩) ps.length c) := (KH.out.ext B.out).cell 0
        have RB := Lib.hid (rangeAt_below R.out B.out hb.out)
        have y2 : wr.cell? ⟨b, o + i * 4 + 2, none⟩ = some (.slice A1 p.2.1.length c1) := RB.out 2 _ rfl
        by_cases hkl : k < p.2.1.length
        · have hkk : (k : Int) < (p.2.1.length : Int) := by omega
          obtain ⟨bd, od, d, rfl, hbd, hd, hrd⟩ := (PD.out.ext B.out).at_ hkl
          have RD := Lib.hid hrd
          have hbdl := Lib.hid hbd
          have hbl : Hid (b < wr.heap.size) := Nat.lt_of_lt_of_le hb.out B.out.size
          have HT : Hid (refT D ps i ++ (p.2.1.take (k + 1)).map (fun d => (placeD D d, (i : Int))) = (refT D ps i ++ (p.2.1.take k).map fun d => (placeD D d, (i : Int))) ++ [(placeD D d, (i : Int))]) := by
            rw [Hid, List.take_add_one, hd, List.append_assoc]; simp
          have hML : (refT D ps i ++ (p.2.1.take k).map fun d => (placeD D d, (i : Int))).length ≤ 200000 := by
            rw [List.length_append, List.length_map, List.length_take]; omega
          generalize (refT D ps i ++ (p.2.1.take k).map fun d => (placeD D d, (i : Int))) = M at *
          have HF : Hid (∀ z : Ext wr, Calls Try.prog 68 #[.slice (some ⟨b, o, none⟩) ps.length c, .agg (encP d).toArray] z.w (RetB z.w (.int .i64 (placeD D d)))) := fun z => by
            have := find48r_any ps z.w (some ⟨b, o, none⟩) ps.length c (by unfold maxLen; omega) ((PT2.out.ext B.out).ext z.h) d
            rwa [PN.out] at this
          generalize placeD D d = pv at *
          have BI := Lib.hid (fun w' => buildI2 pv (i : Int) w')
          go_upto_region 8 with fail
          try go_frame
          obtain ⟨A', c', rfl, _, _⟩ := Sl.of_own O.out
          have q0 : ∀ z : Ext wr, z.w.cell? ⟨gh, 0, none⟩ = some (.slice (some ⟨b, o, none⟩) ps.length c) := fun z => ((KH.out.ext B.out).ext z.h).cell 0
          have q2 : ∀ z : Ext wr, z.w.cell? ⟨b, o + i * 4 + 2, none⟩ = some (.slice (some ⟨bd, od, none⟩) p.2.1.length c1) := fun z => by rw [z.h.cell (p := ⟨b, o + i * 4 + 2, none⟩) hbl.out]; exact y2
          have RX := Lib.hid (rangeAt_ext RD.out hbdl.out)
          clear y0 y2 hbd hd hrd
          refine wp_region_move_made (v := .slice A' M.length c') 15 mixedS (by kernel_rfl) (fun _ _ _ h => h) rfl ?_
          simp only [List.take_succ_cons, List.take_zero, List.drop_succ_cons, List.drop_zero, Nat.add_one_sub_one, Act.put, List.setIfInBounds_toArray, List.set_cons_zero, List.set_cons_succ]
          repeat (first
            | (refine wpQuiet_load_mid RX.out underPid rfl infoPid rfl rfl ?_; simp only [List.set_cons_succ, List.set_cons_zero])
            | (refine wpQuiet_val (v := .agg (encI (pv, (i : Int))).toArray) (fun w' _ => exBuild (vs := #[(0, .int .i64 pv), (1, .int .i64 (i : Int))]) (by simp only [List.map_toArray, List.map_cons, List.map_nil]; rfl) (BI.out w')) rfl ?_; simp only [List.set_cons_succ, List.set_cons_zero])
            | go_big_quiet_step ((go_at_call 68; exact ext_call (HF.out _))))
          refine wpQuiet_nil ?_
          rintro _ ⟨z, rfl⟩
          have O3 := Lib.hid (own_ext O.out z.h)
          have B3 := Lib.hid (B.out.trans (z.h.mono B.out.size))
          clear q0 q2 RX HF O B RB
          generalize z.w = w3 at *
          have hbs := B3.out.size
          go_wp2_with (first
            | (refine wpList_lit1 stepSl (cs := encI (pv, (i : Int))) rfl (by omega) (by rfl) ?_)
            | (at_builtin; refine wpList_pushF stepSl O3.out (encI (pv, (i : Int))) rfl (by simp [encI, Value.oneCell']) hbs (by omega) (by unfold maxLen; omega) (by rfl) (by rfl) (by rfl) ?_; intro v1 w6 own1 kp hv1))
          have B6 : Hid (Below w2.heap.size w2 w6) := B3.out.trans (kp.below (fun k e => (O3.out.lt k e).1) B3.out.size)
          have O6 : Hid (w6.ownsRow w2.heap.size 101 2 v1 (M ++ [(pv, (i : Int))]).length ((M ++ [(pv, (i : Int))]).flatMap encI)) := by
            have e : (M ++ [(pv, (i : Int))]).flatMap encI = M.flatMap encI ++ encI (pv, (i : Int)) := by simp
            rw [Hid, e, List.length_append]; exact own1
          clear own1 kp hv1 O3 B3
          go_roundw
          case rel => exact ⟨k + 1, by omega, by go_num, by rw [HT.out]; exact O6.out, B6.out⟩
          case measure => simp [intOf]; omega
        · have hkk : ¬ (k : Int) < (p.2.1.length : Int) := by omega
          obtain rfl : k = p.2.1.length := by omega
          rw [List.take_length, ← refT_next HP.out] at O
          go_wp2_with fail
          go_roundw
          case rel => exact ⟨i + 1, by omega, by go_num, O.out, B.out⟩
          case measure => simp [intOf]; omega
    · have hlk : ¬ (i : Int) < (ps.length : Int) := by omega
      obtain rfl : i = ps.length := by omega
      have hTl : (refT D ps ps.length).length ≤ 100000 := by
        have := refT_len (D := D) (m := 1000) HQ.out ps.length
        have : ps.length * 1000 ≤ 100 * 1000 := Nat.mul_le_mul_right _ (by omega)
        omega
      rw [RTA.out] at O hTl
      obtain ⟨A5, c5, rfl, _, sl⟩ := Sl.of_own O.out
      have HR := Lib.hid (rof8_any (n := ps.length) (c := c5) (by omega) sl (by omega))
      clear sl
      go_wp2_with fail
      refine HR.out.mono ?_
      rintro e w6 ⟨A7, c7, rfl, sl7, b6⟩
      generalize okS ps.length (refS D ps) = L at *
      have KB := Lib.hid ((K0.out.ext B.out).ext b6)
      have KR := Lib.hid (KB.out.row (rel8V ps.length A7 L.length c7))
      have SL := Lib.hid (sl_setRow sl7 KB.out (rel8V ps.length A7 L.length c7))
      have BB : Hid (Below w.heap.size w (w6.setRow gr (rel8V ps.length A7 L.length c7))) := below_setRow (B0.out.trans ((B.out.trans (b6.mono B.out.size)).mono B0.out.size)) hge.out _
      clear sl7 b6 O B HR y0
      go_wp2_with (refine wpList_store_row rfl 110 _ _ (by rfl) gr (rel8V ps.length A7 L.length c7) (by rfl) (by rfl) _ _ KB.out infoR8 rfl rel8V_one ?_)
      refine bodyPost_ret (v := .agg (rel8V ps.length A7 L.length c7)) (results_cell_row rfl _ _ gr 110 _ (0, 0) _ (by rfl) KR.out underR8 rfl infoR8) rfl ⟨A7, c7, rfl, SL.out, BB.out⟩
end Go.Proofs.Ytnhbbggpgieipaa

/- The document's answer: what hangs on what: walked. -/
namespace Go.Proofs.Ytnhbbggpgieipaa
open Go.RowKit

theorem refS_len {D : List PidV} {ps : List PatV} {m : Nat} (hl : ∀ p ∈ ps, p.2.1.length ≤ m) : (refS D ps).length ≤ ps.length * m := by
  have := refT_len (D := D) hl ps.length
  rwa [refT_all] at this
theorem patsH_sub {l : List PatV} {p : PatV} (h : p ∈ patsH l) : p ∈ l := by
  unfold patsH at h
  obtain ⟨d, _, hd⟩ := List.mem_filterMap.1 h
  exact (findP_some hd).1
def RetRelH (w : World) (l : List PatV) (e : Ending) (w' : World) : Prop := ∃ v, e = .returned v ∧ R8At w' v (patsH l).length (relH l) ∧ Below w.heap.size w w'
theorem relh_any {w : World} {v : Value} {l : List PatV} (h : H8At w v l) (hm : l.length ≤ 100) (hq : ∀ p ∈ l, p.2.1.length ≤ 1000) : Calls Try.prog 74 #[v] w (RetRelH w l) := by
  have hp := patsH_le l
  have hq2 : ∀ p ∈ patsH l, p.2.1.length ≤ 1000 := fun p h => hq p (patsH_sub h)
  refine (rrel48_any h (by omega) hq2).mono fun e w' hr => ?_
  have h1 := okS_len (patsH l).length (refS (namesH l) (patsH l))
  have h2 := refS_len (D := namesH l) hq2
  have h3 : (patsH l).length * 1000 ≤ 100 * 1000 := Nat.mul_le_mul_right _ (by omega)
  have hE : ∀ x, x ∈ okS (patsH l).length (refS (namesH l) (patsH l)) ↔ HangE l x := fun x => by rw [patsH_len]; exact refS_all l x
  obtain ⟨u, e1, e2, e3⟩ := R8At.of hr (by omega) (by omega) (relH_of hE) fun x hx => by rw [patsH_len]; exact hangE_lt ((hE x).1 hx)
  exact ⟨u, e1, e2, e3⟩
set_option maxRecDepth 100000 in
set_option maxHeartbeats 8000000 in
theorem rabove48_any {w : World} {v : Value} {l : List PatV} (h : H8At w v l) (hm : l.length ≤ 100) (hq : ∀ p ∈ l, p.2.1.length ≤ 1000) (d : PidV) :
    Calls Try.prog 35 #[v, .agg (encP d).toArray] w (OwnedRet w 41 2 (someD (namesH l) fun i => hasR (relH l) i (placeD (namesH l) d)).length ((someD (namesH l) fun i => hasR (relH l) i (placeD (namesH l) d)).flatMap encP)) := by
  have hpl := patsH_le l
  obtain ⟨A, c, rfl, pt⟩ := h
  have KH : Hid (Blk ((w.alloc (.cells (hang48V A (patsH l).length c) 64)).alloc (.cells (encP d).toArray 41)) w.heap.size 64 (hang48V A (patsH l).length c)) := (Blk.new _ _ _).alloc _
  have KP : Hid (Blk ((w.alloc (.cells (hang48V A (patsH l).length c) 64)).alloc (.cells (encP d).toArray 41)) (w.heap.size + 1) 41 (encP d).toArray) := Blk.newAt (by simp) _ _
  have B0 : Hid (Below w.heap.size w ((w.alloc (.cells (hang48V A (patsH l).length c) 64)).alloc (.cells (encP d).toArray 41))) := ((Below.refl _ _).alloc (Nat.le_refl _) _).alloc (by simp) _
  have PT := Lib.hid (pt.ext B0.out)
  clear pt
  go_enter Try.func35, Try.ntmps35
  go_upto_region 1 with fail
  generalize (w.alloc (.cells (hang48V A (patsH l).length c) 64)).alloc (.cells (encP d).toArray 41) = w2 at *
  obtain ⟨gp, hgp⟩ : ∃ gp, gp = w.heap.size + 1 := ⟨_, rfl⟩
  obtain ⟨gh, hgh⟩ : ∃ gh, gh = w.heap.size := ⟨_, rfl⟩
  rw [← hgp] at KP ⊢
  rw [← hgh] at KH ⊢
  clear hgp hgh
  have HR := Lib.hid (relh_any (v := .agg (hang48V A (patsH l).length c)) ⟨A, c, rfl, PT.out⟩ hm hq)
  go_wp2_with (refine wpList_load_row rfl 64 _ (by rfl) gh (by rfl) _ _ _ _ KH.out underH8 rfl infoH8 ?_)
  refine HR.out.mono ?_
  rintro e w3 ⟨u, rfl, r8, b3⟩
  have R8 := Lib.hid r8
  obtain ⟨A8, m8, c8, rfl⟩ := r8.boxed
  have KH := Lib.hid (KH.out.ext b3)
  have KP := Lib.hid (KP.out.ext b3)
  have PT := Lib.hid (PT.out.ext b3)
  have B3 := Lib.hid (B0.out.trans (b3.mono B0.out.size))
  clear b3 B0 HR r8
  have KZ : Hid (Blk (w3.alloc (.cells #[.int .i64 0, .slice none 0 0] 110)) w3.heap.size 110 #[.int .i64 0, .slice none 0 0]) := Blk.new _ _ _
  have KN : Hid (Blk ((w3.alloc (.cells #[.int .i64 0, .slice none 0 0] 110)).setRow w3.heap.size (rel8V (patsH l).length A8 m8 c8)) w3.heap.size 110 (rel8V (patsH l).length A8 m8 c8)) := KZ.out.row _
  have BN : Hid (Below w3.heap.size w3 ((w3.alloc (.cells #[.int .i64 0, .slice none 0 0] 110)).setRow w3.heap.size (rel8V (patsH l).length A8 m8 c8))) := below_setRow (below_new w3 _) (Nat.le_refl _) _
  go_upto_region 2 with (first
    | (refine wpList_alloced (allocR8 _) ?_)
    | (refine wpList_store_row rfl 110 _ _ (by rfl) w3.heap.size (rel8V (patsH l).length A8 m8 c8) (by rfl) (by rfl) _ _ KZ.out infoR8 rfl rel8V_one ?_))
  generalize ((w3.alloc (.cells #[.int .i64 0, .slice none 0 0] 110)).setRow w3.heap.size (rel8V (patsH l).length A8 m8 c8)) = w4 at *
  have R8 := Lib.hid (R8.out.ext BN.out)
  have KH := Lib.hid (KH.out.ext BN.out)
  have KP := Lib.hid (KP.out.ext BN.out)
  have PT := Lib.hid (PT.out.ext BN.out)
  have B4 := Lib.hid (B3.out.trans (BN.out.mono B3.out.size))
  clear KZ B3 BN
  generalize w3.heap.size = gb at *
  have PL : Hid ((patsH l).length = (namesH l).length) := patsH_len l
  have PN := Lib.hid (patsH_names l)
  have PA : Hid (∀ (j : Nat) (p : PatV), (patsH l)[j]? = some p → (namesH l)[j]? = some p.1) := fun j p h => (patsH_at h).1
  generalize hD : namesH l = D at *
  generalize patsH l = ps at *
  generalize hR : relH l = R at *
  replace hD := Lib.hid hD
  replace hR := Lib.hid hR
  have BR := Lib.hid (Below.refl w4.heap.size w4)
  go_wp2_with fail
  go_loopw [7, 6] (fun v s wr => ∃ k : Nat, k ≤ ps.length ∧ v = .int .i64 k ∧ Hid (wr.ownsRow w4.heap.size 41 2 s (someK D (fun i => hasR R i (placeD D d)) k).length ((someK D (fun i => hasR R i (placeD D d)) k).flatMap encP)) ∧ Hid (Below w4.heap.size w4 wr)) (fun v _ _ => ps.length - (intOf v).toNat)
  case atStart => exact ⟨0, by omega, rfl, World.ownsRow_nil _ _ _ _, BR.out⟩
  case round =>
    clear BR
    obtain ⟨k, hk, rfl, O, B⟩ := hrel
    have hk0 : (0 : Int) ≤ (k : Int) := by omega
    have y0 : wr.cell? ⟨gh, 0, none⟩ = some (.slice A ps.length c) := (KH.out.ext B.out).cell 0
    by_cases hlt : k < ps.length
    · have hlk : (k : Int) < (ps.length : Int) := by omega
      obtain ⟨b, o, x, r, rfl, hb, hx, pa, hr⟩ := PT.out.at_ hlt
      obtain ⟨⟨A1, c1, A2, c2, rfl, _, _⟩, _, _⟩ := pa
      have hd := PA.out k x hx
      have SY := Lib.hid (fun hq => someK_yes (D := D) (q := fun i => hasR R i (placeD D d)) hd hq)
      have SN := Lib.hid (fun hq => someK_no (D := D) (q := fun i => hasR R i (placeD D d)) (k := k) hq)
      have hsl := someK_len D (fun i => hasR R i (placeD D d)) k
      have RA := Lib.hid (rangeAt_below (pid_range hr) B.out hb)
      have hbl : Hid (b < wr.heap.size) := Nat.lt_of_lt_of_le hb B.out.size
      have KR := Lib.hid (KN.out.ext B.out)
      have KQ := Lib.hid (KP.out.ext B.out)
      have HF : Hid (∀ z : Ext wr, Calls Try.prog 68 #[.slice (some ⟨b, o, none⟩) ps.length c, .agg (encP d).toArray] z.w (RetB z.w (.int .i64 (placeD D d)))) := fun z => by
        have := find48r_any ps z.w (some ⟨b, o, none⟩) ps.length c (by unfold maxLen; omega) ((PT.out.ext B.out).ext z.h) d
        rwa [PN.out] at this
      have HS : Hid (∀ z : Ext wr, Calls Try.prog 75 #[.agg (rel8V ps.length A8 m8 c8), .int .i64 (k : Int), .int .i64 (placeD D d)] z.w (RetB z.w (.bool (hasR R (k : Int) (placeD D d))))) := fun z => has8r_any ((R8.out.ext B.out).ext z.h) _ _
      have q0 : ∀ z : Ext wr, z.w.cell? ⟨gh, 0, none⟩ = some (.slice (some ⟨b, o, none⟩) ps.length c) := fun z => ((KH.out.ext B.out).ext z.h).cell 0
      clear hr hb hx hd
      go_upto_region 6 with fail
      try go_frame
      clear y0
      cases hq : (hasR R (k : Int) (placeD D d))
      · rw [hq] at HS
        have E := Lib.hid (SN.out hq)
        refine wp_region_ext mixedS (by kernel_rfl) ?_
        repeat (first
          | (refine wpQuiet_load_row KR.out underR8 rfl infoR8 rfl rfl ?_; simp only [List.set_cons_succ, List.set_cons_zero])
          | (refine wpQuiet_load_row KQ.out underPid rfl infoPid rfl rfl ?_; simp only [List.set_cons_succ, List.set_cons_zero])
          | go_big_quiet_step ((first
            | (go_at_call 68; exact ext_call (HF.out _))
            | (go_at_call 75; exact ext_call (HS.out _)))))
        refine wpQuiet_nil ?_
        rintro _ ⟨z, rfl⟩
        have O3 := Lib.hid (own_ext O.out z.h)
        have B3 := Lib.hid (B.out.trans (z.h.mono B.out.size))
        clear O B KR KQ HF HS q0 RA
        generalize z.w = w5 at *
        go_wp2_with fail
        go_roundw
        case rel => exact ⟨k + 1, by omega, by go_num, by rw [E.out]; exact O3.out, B3.out⟩
        case measure => simp [intOf]; omega
      · rw [hq] at HS
        have E := Lib.hid (SY.out hq)
        refine wp_region_ext mixedS (by kernel_rfl) ?_
        repeat (first
          | (refine wpQuiet_load_row KR.out underR8 rfl infoR8 rfl rfl ?_; simp only [List.set_cons_succ, List.set_cons_zero])
          | (refine wpQuiet_load_row KQ.out underPid rfl infoPid rfl rfl ?_; simp only [List.set_cons_succ, List.set_cons_zero])
          | go_big_quiet_step ((first
            | (go_at_call 68; exact ext_call (HF.out _))
            | (go_at_call 75; exact ext_call (HS.out _)))))
        refine wpQuiet_nil ?_
        rintro _ ⟨z, rfl⟩
        have O3 := Lib.hid (own_ext O.out z.h)
        have B3 := Lib.hid (B.out.trans (z.h.mono B.out.size))
        have y0 := q0 z
        have RZ := Lib.hid (rangeAt_below RA.out z.h hbl.out)
        clear O B KR KQ HF HS q0 RA
        generalize z.w = w5 at *
        have hbs := B3.out.size
        go_wp2_with (first
          | (refine wpList_load_mid rfl 41 _ (by rfl) b (o + k * 4) (by rfl) _ _ RZ.out underPid rfl infoPid ?_)
          | (refine wpList_lit1 pidSl (encP_len x.1) (by omega) (by rfl) ?_)
          | (at_builtin; refine wpList_push pidSl O3.out (encP x.1) rfl (encP_one _) hbs (by omega) (by unfold maxLen; omega) (by rfl) (by rfl) (by rfl) ?_; intro v1 w6 own1 bel1))
        have B5 := Lib.hid (B3.out.trans bel1)
        have O5 : Hid (w6.ownsRow w4.heap.size 41 2 v1 (someK D (fun i => hasR R i (placeD D d)) (k + 1)).length ((someK D (fun i => hasR R i (placeD D d)) (k + 1)).flatMap encP)) := by
          rw [Hid, E.out, flat_snocP, List.length_append]; exact own1
        clear own1 bel1 O3 B3 y0 RZ
        go_roundw
        case rel => exact ⟨k + 1, by omega, by go_num, O5.out, B5.out⟩
        case measure => simp [intOf]; omega
    · have hlk : ¬ (k : Int) < (ps.length : Int) := by omega
      have hkl : k = D.length := by have := PL.out; omega
      rw [hkl] at O
      have O5 := Lib.hid (own_rebase (base' := w.heap.size) O.out fun k e => Nat.le_trans B4.out.size (O.out.lt k e).1)
      have B5 := Lib.hid (B4.out.trans (B.out.mono B4.out.size))
      clear O B
      go_wp2
      go_ret
      exact ⟨_, rfl, by rw [hD.out, hR.out]; exact O5.out, B5.out⟩
set_option maxRecDepth 100000 in
set_option maxHeartbeats 8000000 in
theorem rbelow48_any {w : World} {v : Value} {l : List PatV} (h : H8At w v l) (hm : l.length ≤ 100) (hq : ∀ p ∈ l, p.2.1.length ≤ 1000) (d : PidV) :
    Calls Try.prog 37 #[v, .agg (encP d).toArray] w (OwnedRet w 41 2 (someD (namesH l) fun i => hasR (relH l) (placeD (namesH l) d) i).length ((someD (namesH l) fun i => hasR (relH l) (placeD (namesH l) d) i).flatMap encP)) := by
  have hpl := patsH_le l
  obtain ⟨A, c, rfl, pt⟩ := h
  have KH : Hid (Blk ((w.alloc (.cells (hang48V A (patsH l).length c) 64)).alloc (.cells (encP d).toArray 41)) w.heap.size 64 (hang48V A (patsH l).length c)) := (Blk.new _ _ _).alloc _
  have KP : Hid (Blk ((w.alloc (.cells (hang48V A (patsH l).length c) 64)).alloc (.cells (encP d).toArray 41)) (w.heap.size + 1) 41 (encP d).toArray) := Blk.newAt (by simp) _ _
  have B0 : Hid (Below w.heap.size w ((w.alloc (.cells (hang48V A (patsH l).length c) 64)).alloc (.cells (encP d).toArray 41))) := ((Below.refl _ _).alloc (Nat.le_refl _) _).alloc (by simp) _
  have PT := Lib.hid (pt.ext B0.out)
  clear pt
  go_enter Try.func37, Try.ntmps37
  go_upto_region 1 with fail
  generalize (w.alloc (.cells (hang48V A (patsH l).length c) 64)).alloc (.cells (encP d).toArray 41) = w2 at *
  obtain ⟨gp, hgp⟩ : ∃ gp, gp = w.heap.size + 1 := ⟨_, rfl⟩
  obtain ⟨gh, hgh⟩ : ∃ gh, gh = w.heap.size := ⟨_, rfl⟩
  rw [← hgp] at KP ⊢
  rw [← hgh] at KH ⊢
  clear hgp hgh
  have HR := Lib.hid (relh_any (v := .agg (hang48V A (patsH l).length c)) ⟨A, c, rfl, PT.out⟩ hm hq)
  go_wp2_with (refine wpList_load_row rfl 64 _ (by rfl) gh (by rfl) _ _ _ _ KH.out underH8 rfl infoH8 ?_)
  refine HR.out.mono ?_
  rintro e w3 ⟨u, rfl, r8, b3⟩
  have R8 := Lib.hid r8
  obtain ⟨A8, m8, c8, rfl⟩ := r8.boxed
  have KH := Lib.hid (KH.out.ext b3)
  have KP := Lib.hid (KP.out.ext b3)
  have PT := Lib.hid (PT.out.ext b3)
  have B3 := Lib.hid (B0.out.trans (b3.mono B0.out.size))
  clear b3 B0 HR r8
  have KZ : Hid (Blk (w3.alloc (.cells #[.int .i64 0, .slice none 0 0] 110)) w3.heap.size 110 #[.int .i64 0, .slice none 0 0]) := Blk.new _ _ _
  have KN : Hid (Blk ((w3.alloc (.cells #[.int .i64 0, .slice none 0 0] 110)).setRow w3.heap.size (rel8V (patsH l).length A8 m8 c8)) w3.heap.size 110 (rel8V (patsH l).length A8 m8 c8)) := KZ.out.row _
  have BN : Hid (Below w3.heap.size w3 ((w3.alloc (.cells #[.int .i64 0, .slice none 0 0] 110)).setRow w3.heap.size (rel8V (patsH l).length A8 m8 c8))) := below_setRow (below_new w3 _) (Nat.le_refl _) _
  go_upto_region 2 with (first
    | (refine wpList_alloced (allocR8 _) ?_)
    | (refine wpList_store_row rfl 110 _ _ (by rfl) w3.heap.size (rel8V (patsH l).length A8 m8 c8) (by rfl) (by rfl) _ _ KZ.out infoR8 rfl rel8V_one ?_))
  generalize ((w3.alloc (.cells #[.int .i64 0, .slice none 0 0] 110)).setRow w3.heap.size (rel8V (patsH l).length A8 m8 c8)) = w4 at *
  have R8 := Lib.hid (R8.out.ext BN.out)
  have KH := Lib.hid (KH.out.ext BN.out)
  have KP := Lib.hid (KP.out.ext BN.out)
  have PT := Lib.hid (PT.out.ext BN.out)
  have B4 := Lib.hid (B3.out.trans (BN.out.mono B3.out.size))
  clear KZ B3 BN
  generalize w3.heap.size = gb at *
  have PL : Hid ((patsH l).length = (namesH l).length) := patsH_len l
  have PN := Lib.hid (patsH_names l)
  have PA : Hid (∀ (j : Nat) (p : PatV), (patsH l)[j]? = some p → (namesH l)[j]? = some p.1) := fun j p h => (patsH_at h).1
  generalize hD : namesH l = D at *
  generalize patsH l = ps at *
  generalize hR : relH l = R at *
  replace hD := Lib.hid hD
  replace hR := Lib.hid hR
  have BR := Lib.hid (Below.refl w4.heap.size w4)
  go_wp2_with fail
  go_loopw [7, 6] (fun v s wr => ∃ k : Nat, k ≤ ps.length ∧ v = .int .i64 k ∧ Hid (wr.ownsRow w4.heap.size 41 2 s (someK D (fun i => hasR R (placeD D d) i) k).length ((someK D (fun i => hasR R (placeD D d) i) k).flatMap encP)) ∧ Hid (Below w4.heap.size w4 wr)) (fun v _ _ => ps.length - (intOf v).toNat)
  case atStart => exact ⟨0, by omega, rfl, World.ownsRow_nil _ _ _ _, BR.out⟩
  case round =>
    clear BR
    obtain ⟨k, hk, rfl, O, B⟩ := hrel
    have hk0 : (0 : Int) ≤ (k : Int) := by omega
    have y0 : wr.cell? ⟨gh, 0, none⟩ = some (.slice A ps.length c) := (KH.out.ext B.out).cell 0
    by_cases hlt : k < ps.length
    · have hlk : (k : Int) < (ps.length : Int) := by omega
      obtain ⟨b, o, x, r, rfl, hb, hx, pa, hr⟩ := PT.out.at_ hlt
      obtain ⟨⟨A1, c1, A2, c2, rfl, _, _⟩, _, _⟩ := pa
      have hd := PA.out k x hx
      have SY := Lib.hid (fun hq => someK_yes (D := D) (q := fun i => hasR R (placeD D d) i) hd hq)
      have SN := Lib.hid (fun hq => someK_no (D := D) (q := fun i => hasR R (placeD D d) i) (k := k) hq)
      have hsl := someK_len D (fun i => hasR R (placeD D d) i) k
      have RA := Lib.hid (rangeAt_below (pid_range hr) B.out hb)
      have hbl : Hid (b < wr.heap.size) := Nat.lt_of_lt_of_le hb B.out.size
      have KR := Lib.hid (KN.out.ext B.out)
      have KQ := Lib.hid (KP.out.ext B.out)
      have HF : Hid (∀ z : Ext wr, Calls Try.prog 68 #[.slice (some ⟨b, o, none⟩) ps.length c, .agg (encP d).toArray] z.w (RetB z.w (.int .i64 (placeD D d)))) := fun z => by
        have := find48r_any ps z.w (some ⟨b, o, none⟩) ps.length c (by unfold maxLen; omega) ((PT.out.ext B.out).ext z.h) d
        rwa [PN.out] at this
      have HS : Hid (∀ z : Ext wr, Calls Try.prog 75 #[.agg (rel8V ps.length A8 m8 c8), .int .i64 (placeD D d), .int .i64 (k : Int)] z.w (RetB z.w (.bool (hasR R (placeD D d) (k : Int))))) := fun z => has8r_any ((R8.out.ext B.out).ext z.h) _ _
      have q0 : ∀ z : Ext wr, z.w.cell? ⟨gh, 0, none⟩ = some (.slice (some ⟨b, o, none⟩) ps.length c) := fun z => ((KH.out.ext B.out).ext z.h).cell 0
      clear hr hb hx hd
      go_upto_region 6 with fail
      try go_frame
      clear y0
      cases hq : (hasR R (placeD D d) (k : Int))
      · rw [hq] at HS
        have E := Lib.hid (SN.out hq)
        refine wp_region_ext mixedS (by kernel_rfl) ?_
        repeat (first
          | (refine wpQuiet_load_row KR.out underR8 rfl infoR8 rfl rfl ?_; simp only [List.set_cons_succ, List.set_cons_zero])
          | (refine wpQuiet_load_row KQ.out underPid rfl infoPid rfl rfl ?_; simp only [List.set_cons_succ, List.set_cons_zero])
          | go_big_quiet_step ((first
            | (go_at_call 68; exact ext_call (HF.out _))
            | (go_at_call 75; exact ext_call (HS.out _)))))
        refine wpQuiet_nil ?_
        rintro _ ⟨z, rfl⟩
        have O3 := Lib.hid (own_ext O.out z.h)
        have B3 := Lib.hid (B.out.trans (z.h.mono B.out.size))
        clear O B KR KQ HF HS q0 RA
        generalize z.w = w5 at *
        go_wp2_with fail
        go_roundw
        case rel => exact ⟨k + 1, by omega, by go_num, by rw [E.out]; exact O3.out, B3.out⟩
        case measure => simp [intOf]; omega
      · rw [hq] at HS
        have E := Lib.hid (SY.out hq)
        refine wp_region_ext mixedS (by kernel_rfl) ?_
        repeat (first
          | (refine wpQuiet_load_row KR.out underR8 rfl infoR8 rfl rfl ?_; simp only [List.set_cons_succ, List.set_cons_zero])
          | (refine wpQuiet_load_row KQ.out underPid rfl infoPid rfl rfl ?_; simp only [List.set_cons_succ, List.set_cons_zero])
          | go_big_quiet_step ((first
            | (go_at_call 68; exact ext_call (HF.out _))
            | (go_at_call 75; exact ext_call (HS.out _)))))
        refine wpQuiet_nil ?_
        rintro _ ⟨z, rfl⟩
        have O3 := Lib.hid (own_ext O.out z.h)
        have B3 := Lib.hid (B.out.trans (z.h.mono B.out.size))
        have y0 := q0 z
        have RZ := Lib.hid (rangeAt_below RA.out z.h hbl.out)
        clear O B KR KQ HF HS q0 RA
        generalize z.w = w5 at *
        have hbs := B3.out.size
        go_wp2_with (first
          | (refine wpList_load_mid rfl 41 _ (by rfl) b (o + k * 4) (by rfl) _ _ RZ.out underPid rfl infoPid ?_)
          | (refine wpList_lit1 pidSl (encP_len x.1) (by omega) (by rfl) ?_)
          | (at_builtin; refine wpList_push pidSl O3.out (encP x.1) rfl (encP_one _) hbs (by omega) (by unfold maxLen; omega) (by rfl) (by rfl) (by rfl) ?_; intro v1 w6 own1 bel1))
        have B5 := Lib.hid (B3.out.trans bel1)
        have O5 : Hid (w6.ownsRow w4.heap.size 41 2 v1 (someK D (fun i => hasR R (placeD D d) i) (k + 1)).length ((someK D (fun i => hasR R (placeD D d) i) (k + 1)).flatMap encP)) := by
          rw [Hid, E.out, flat_snocP, List.length_append]; exact own1
        clear own1 bel1 O3 B3 y0 RZ
        go_roundw
        case rel => exact ⟨k + 1, by omega, by go_num, O5.out, B5.out⟩
        case measure => simp [intOf]; omega
    · have hlk : ¬ (k : Int) < (ps.length : Int) := by omega
      have hkl : k = D.length := by have := PL.out; omega
      rw [hkl] at O
      have O5 := Lib.hid (own_rebase (base' := w.heap.size) O.out fun k e => Nat.le_trans B4.out.size (O.out.lt k e).1)
      have B5 := Lib.hid (B4.out.trans (B.out.mono B4.out.size))
      clear O B
      go_wp2
      go_ret
      exact ⟨_, rfl, by rw [hD.out, hR.out]; exact O5.out, B5.out⟩
end Go.Proofs.Ytnhbbggpgieipaa

/- The document's answer: all, and all one behind another: walked. -/
namespace Go.Proofs.Ytnhbbggpgieipaa
open Go.RowKit

set_option maxRecDepth 100000 in
set_option maxHeartbeats 4000000 in
theorem rall48_any {w : World} {v : Value} {l : List PatV} (h : H8At w v l) (hm : l.length ≤ 100) :
    Calls Try.prog 33 #[v] w (OwnedRet w 41 2 (namesH l).length ((namesH l).flatMap encP)) := by
  have hpl := patsH_le l
  obtain ⟨A, c, rfl, pt⟩ := h
  have KH : Hid (Blk (w.alloc (.cells (hang48V A (patsH l).length c) 64)) w.heap.size 64 (hang48V A (patsH l).length c)) := Blk.new _ _ _
  have B0 : Hid (Below w.heap.size w (w.alloc (.cells (hang48V A (patsH l).length c) 64))) := below_new _ _
  have PT := Lib.hid (pt.ext B0.out)
  clear pt
  go_enter Try.func33, Try.ntmps33
  go_upto_region 1 with fail
  generalize (w.alloc (.cells (hang48V A (patsH l).length c) 64)) = w2 at *
  obtain ⟨gh, hgh⟩ : ∃ gh, gh = w.heap.size := ⟨_, rfl⟩
  rw [← hgh] at KH ⊢
  clear hgh
  have PL : Hid ((patsH l).length = (namesH l).length) := patsH_len l
  have PA : Hid (∀ (j : Nat) (p : PatV), (patsH l)[j]? = some p → (namesH l)[j]? = some p.1) := fun j p h => (patsH_at h).1
  generalize hD : namesH l = D at *
  generalize patsH l = ps at *
  replace hD := Lib.hid hD
  have BR := Lib.hid (Below.refl w2.heap.size w2)
  go_wp2_with fail
  go_loopw [4, 3] (fun v s wr => ∃ k : Nat, k ≤ ps.length ∧ v = .int .i64 k ∧ Hid (wr.ownsRow w2.heap.size 41 2 s k ((D.take k).flatMap encP)) ∧ Hid (Below w2.heap.size w2 wr)) (fun v _ _ => ps.length - (intOf v).toNat)
  case atStart => exact ⟨0, by omega, rfl, World.ownsRow_nil _ _ _ _, BR.out⟩
  case round =>
    clear BR
    obtain ⟨k, hk, rfl, O, B⟩ := hrel
    have hk0 : (0 : Int) ≤ (k : Int) := by omega
    have y0 : wr.cell? ⟨gh, 0, none⟩ = some (.slice A ps.length c) := (KH.out.ext B.out).cell 0
    have hbs := B.out.size
    by_cases hlt : k < ps.length
    · have hlk : (k : Int) < (ps.length : Int) := by omega
      obtain ⟨b, o, x, r, rfl, hb, hx, pa, hr⟩ := PT.out.at_ hlt
      obtain ⟨⟨A1, c1, A2, c2, rfl, _, _⟩, _, _⟩ := pa
      have RA := Lib.hid (rangeAt_below (pid_range hr) B.out hb)
      have HT : Hid (D.take (k + 1) = D.take k ++ [x.1]) := by rw [Hid, List.take_add_one, PA.out k x hx]; rfl
      clear hr hb hx
      go_wp2_with (first
        | (refine wpList_load_mid rfl 41 _ (by rfl) b (o + k * 4) (by rfl) _ _ RA.out underPid rfl infoPid ?_)
        | (refine wpList_lit1 pidSl (encP_len x.1) (by omega) (by rfl) ?_)
        | (at_builtin; refine wpList_push pidSl O.out (encP x.1) rfl (encP_one _) hbs (by omega) (by unfold maxLen; omega) (by rfl) (by rfl) (by rfl) ?_; intro v1 w5 own1 bel1))
      have B5 := Lib.hid (B.out.trans bel1)
      have O5 : Hid (w5.ownsRow w2.heap.size 41 2 v1 (k + 1) ((D.take (k + 1)).flatMap encP)) := by rw [Hid, HT.out, flat_snocP]; exact own1
      clear own1 bel1 O B RA y0
      go_roundw
      case rel => exact ⟨k + 1, by omega, by go_num, O5.out, B5.out⟩
      case measure => simp [intOf]; omega
    · have hlk : ¬ (k : Int) < (ps.length : Int) := by omega
      have hkl : k = D.length := by have := PL.out; omega
      rw [hkl, List.take_length] at O
      have O5 := Lib.hid (own_rebase (base' := w.heap.size) O.out fun k e => Nat.le_trans B0.out.size (O.out.lt k e).1)
      have B5 := Lib.hid (B0.out.trans (B.out.mono B0.out.size))
      clear O B
      go_wp2
      go_ret
      exact ⟨_, rfl, O5.out, B5.out⟩
set_option maxRecDepth 100000 in
set_option maxHeartbeats 8000000 in
theorem rorder48_any {w : World} {v : Value} {l : List PatV} (h : H8At w v l) (hm : l.length ≤ 100) (hq : ∀ p ∈ l, p.2.1.length ≤ 1000) :
    Calls Try.prog 43 #[v] w (OwnedRet w 41 2 (namesAt (namesH l) (ordR (relH l) (namesH l).length)).length ((namesAt (namesH l) (ordR (relH l) (namesH l).length)).flatMap encP)) := by
  have hpl := patsH_le l
  have OT := Lib.hid (ordR_told (relH_trans l)).1
  obtain ⟨A, c, rfl, pt⟩ := h
  have KH : Hid (Blk (w.alloc (.cells (hang48V A (patsH l).length c) 64)) w.heap.size 64 (hang48V A (patsH l).length c)) := Blk.new _ _ _
  have B0 : Hid (Below w.heap.size w (w.alloc (.cells (hang48V A (patsH l).length c) 64))) := below_new _ _
  have PT := Lib.hid (pt.ext B0.out)
  clear pt
  go_enter Try.func43, Try.ntmps43
  go_upto_region 1 with fail
  generalize (w.alloc (.cells (hang48V A (patsH l).length c) 64)) = w2 at *
  obtain ⟨gh, hgh⟩ : ∃ gh, gh = w.heap.size := ⟨_, rfl⟩
  rw [← hgh] at KH ⊢
  clear hgh
  have HR := Lib.hid (relh_any (v := .agg (hang48V A (patsH l).length c)) ⟨A, c, rfl, PT.out⟩ hm hq)
  go_wp2_with (refine wpList_load_row rfl 64 _ (by rfl) gh (by rfl) _ _ _ _ KH.out underH8 rfl infoH8 ?_)
  refine HR.out.mono ?_
  rintro e w3 ⟨u, rfl, r8, b3⟩
  have HO := Lib.hid (rorder9_any r8)
  have KH := Lib.hid (KH.out.ext b3)
  have PT := Lib.hid (PT.out.ext b3)
  have B3 := Lib.hid (B0.out.trans (b3.mono B0.out.size))
  clear b3 B0 HR r8
  have PL : Hid ((patsH l).length = (namesH l).length) := patsH_len l
  rw [PL.out] at HO
  go_wp2_with fail
  refine HO.out.mono ?_
  rintro e w4 ⟨AF, cF, rfl, oF, b4⟩
  have OF := Lib.hid oF
  have KH := Lib.hid (KH.out.ext b4)
  have PT := Lib.hid (PT.out.ext b4)
  have B4 := Lib.hid (B3.out.trans (b4.mono B3.out.size))
  clear oF b4 B3 HO
  have PA : Hid (∀ (j : Nat) (p : PatV), (patsH l)[j]? = some p → (namesH l)[j]? = some p.1) := fun j p h => (patsH_at h).1
  generalize hF : ordR (relH l) (namesH l).length = F at *
  generalize hD : namesH l = D at *
  generalize patsH l = ps at *
  replace hD := Lib.hid hD
  replace hF := Lib.hid hF
  have hFl := OT.out.le
  have BR := Lib.hid (Below.refl w4.heap.size w4)
  go_wp2_with fail
  go_loopw [5, 4] (fun v s wr => ∃ k : Nat, k ≤ F.length ∧ v = .int .i64 k ∧ Hid (wr.ownsRow w4.heap.size 41 2 s (namesAt D (F.take k)).length ((namesAt D (F.take k)).flatMap encP)) ∧ Hid (Below w4.heap.size w4 wr)) (fun v _ _ => F.length - (intOf v).toNat)
  case atStart => exact ⟨0, by omega, rfl, World.ownsRow_nil _ _ _ _, BR.out⟩
  case round =>
    clear BR
    obtain ⟨k, hk, rfl, O, B⟩ := hrel
    have hk0 : (0 : Int) ≤ (k : Int) := by omega
    by_cases hlt : k < F.length
    · have hlk : (k : Int) < (F.length : Int) := by omega
      obtain ⟨bo, oo, rfl, hb1, hc1⟩ := encN_at (own_ext OF.out B.out) hlt
      have HT : Hid (F.take (k + 1) = F.take k ++ [F[k]]) := by rw [Hid, List.take_add_one, List.getElem?_eq_getElem hlt]; rfl
      have hxl : F[k] < D.length := OT.out.lt _ (List.getElem_mem hlt)
      have hnl := namesAt_len D (F.take k)
      rw [List.length_take] at hnl
      generalize F[k] = i at *
      have hi0 : (0 : Int) ≤ (i : Int) := by omega
      have hip : i < ps.length := by have := PL.out; omega
      have hik : (i : Int) < (ps.length : Int) := by omega
      obtain ⟨b, o, x, r, rfl, hb, hx, pa, hr⟩ := PT.out.at_ hip
      obtain ⟨⟨A1, c1, A2, c2, rfl, _, _⟩, _, _⟩ := pa
      have RA := Lib.hid (rangeAt_below (pid_range hr) B.out hb)
      have hbl : Hid (b < wr.heap.size) := Nat.lt_of_lt_of_le hb B.out.size
      have E : Hid (namesAt D (F.take (k + 1)) = namesAt D (F.take k) ++ [x.1]) := by rw [Hid, HT.out]; exact namesAt_snoc (PA.out i x hx)
      have q0 : ∀ z : Ext wr, z.w.cell? ⟨gh, 0, none⟩ = some (.slice (some ⟨b, o, none⟩) ps.length c) := fun z => ((KH.out.ext B.out).ext z.h).cell 0
      have q1 : ∀ z : Ext wr, z.w.cell? ⟨bo, oo + k, none⟩ = some (.int .i64 (i : Int)) := fun z => by rw [z.h.cell (p := ⟨bo, oo + k, none⟩) hb1]; exact hc1
      have RX := Lib.hid (rangeAt_ext RA.out hbl.out)
      clear hr hb hx hb1 hc1
      obtain ⟨A', c', rfl, _, _⟩ := Sl.of_own O.out
      go_upto_region 6 with fail
      try go_frame
      refine wp_region_move_made (v := .slice A' (namesAt D (F.take k)).length c') 10 mixedS (by kernel_rfl) (fun _ _ _ h => h) rfl ?_
      simp only [List.take_succ_cons, List.take_zero, List.drop_succ_cons, List.drop_zero, Nat.add_one_sub_one, Act.put, List.setIfInBounds_toArray, List.set_cons_zero, List.set_cons_succ]
      repeat (first
        | (refine wpQuiet_load_mid RX.out underPid rfl infoPid rfl rfl ?_; simp only [List.set_cons_succ, List.set_cons_zero])
        | go_big_quiet_step (fail))
      refine wpQuiet_nil ?_
      rintro _ ⟨z, rfl⟩
      have O3 := Lib.hid (own_ext O.out z.h)
      have B3 := Lib.hid (B.out.trans (z.h.mono B.out.size))
      clear q0 q1 RX O B RA
      generalize z.w = w5 at *
      have hbs := B3.out.size
      have hnm : (namesAt D (F.take k)).length + 1 ≤ 1000 := by have := PL.out; omega
      have hk9 : k + 1 ≤ 1000 := by have := PL.out; omega
      go_wp2_with (first
        | (refine wpList_lit1 pidSl (encP_len x.1) (by omega) (by rfl) ?_)
        | (at_builtin; refine wpList_push pidSl O3.out (encP x.1) rfl (encP_one _) hbs (by omega) (by unfold maxLen; omega) (by rfl) (by rfl) (by rfl) ?_; intro v1 w6 own1 bel1))
      have B5 := Lib.hid (B3.out.trans bel1)
      have O5 : Hid (w6.ownsRow w4.heap.size 41 2 v1 (namesAt D (F.take (k + 1))).length ((namesAt D (F.take (k + 1))).flatMap encP)) := by
        rw [Hid, E.out, flat_snocP, List.length_append]; exact own1
      clear own1 bel1 O3 B3
      go_roundw
      case rel => exact ⟨k + 1, by omega, by go_num, O5.out, B5.out⟩
      case measure => simp [intOf]; omega
    · have hlk : ¬ (k : Int) < (F.length : Int) := by omega
      rw [List.take_of_length_le (by omega)] at O
      have O5 := Lib.hid (own_rebase (base' := w.heap.size) O.out fun k e => Nat.le_trans B4.out.size (O.out.lt k e).1)
      have B5 := Lib.hid (B4.out.trans (B.out.mono B4.out.size))
      clear O B
      go_wp2
      go_ret
      exact ⟨_, rfl, O5.out, B5.out⟩
end Go.Proofs.Ytnhbbggpgieipaa

/- The document's answer: the patches that nothing hangs on: walked. -/
namespace Go.Proofs.Ytnhbbggpgieipaa
open Go.RowKit

/-- does nothing of the first j hang on i -/
def headK (R : Nat → Nat → Bool) (i j : Nat) : Bool := (List.range j).all fun k => decide (k = i) || !R i k
theorem headK_next (R : Nat → Nat → Bool) (i j : Nat) : headK R i (j + 1) = (headK R i j && (decide (j = i) || !R i j)) := by
  unfold headK
  rw [List.range_succ, List.all_append]
  simp
set_option maxRecDepth 100000 in
set_option maxHeartbeats 8000000 in
theorem rheads48_any {w : World} {v : Value} {l : List PatV} (h : H8At w v l) (hm : l.length ≤ 100) (hq : ∀ p ∈ l, p.2.1.length ≤ 1000) :
    Calls Try.prog 39 #[v] w (OwnedRet w 41 2 (someD (namesH l) (headR (relH l) (namesH l).length)).length ((someD (namesH l) (headR (relH l) (namesH l).length)).flatMap encP)) := by
  have hpl := patsH_le l
  obtain ⟨A, c, rfl, pt⟩ := h
  have KH : Hid (Blk (w.alloc (.cells (hang48V A (patsH l).length c) 64)) w.heap.size 64 (hang48V A (patsH l).length c)) := Blk.new _ _ _
  have B0 : Hid (Below w.heap.size w (w.alloc (.cells (hang48V A (patsH l).length c) 64))) := below_new _ _
  have PT := Lib.hid (pt.ext B0.out)
  clear pt
  go_enter Try.func39, Try.ntmps39
  go_upto_region 1 with fail
  generalize (w.alloc (.cells (hang48V A (patsH l).length c) 64)) = w2 at *
  obtain ⟨gh, hgh⟩ : ∃ gh, gh = w.heap.size := ⟨_, rfl⟩
  rw [← hgh] at KH ⊢
  clear hgh
  have HR := Lib.hid (relh_any (v := .agg (hang48V A (patsH l).length c)) ⟨A, c, rfl, PT.out⟩ hm hq)
  go_wp2_with (refine wpList_load_row rfl 64 _ (by rfl) gh (by rfl) _ _ _ _ KH.out underH8 rfl infoH8 ?_)
  refine HR.out.mono ?_
  rintro e w3 ⟨u, rfl, r8, b3⟩
  have R8 := Lib.hid r8
  obtain ⟨A8, m8, c8, rfl⟩ := r8.boxed
  have KH := Lib.hid (KH.out.ext b3)
  have PT := Lib.hid (PT.out.ext b3)
  have B3 := Lib.hid (B0.out.trans (b3.mono B0.out.size))
  clear b3 B0 HR r8
  have KZ : Hid (Blk (w3.alloc (.cells #[.int .i64 0, .slice none 0 0] 110)) w3.heap.size 110 #[.int .i64 0, .slice none 0 0]) := Blk.new _ _ _
  have KN : Hid (Blk ((w3.alloc (.cells #[.int .i64 0, .slice none 0 0] 110)).setRow w3.heap.size (rel8V (patsH l).length A8 m8 c8)) w3.heap.size 110 (rel8V (patsH l).length A8 m8 c8)) := KZ.out.row _
  have BN : Hid (Below w3.heap.size w3 ((w3.alloc (.cells #[.int .i64 0, .slice none 0 0] 110)).setRow w3.heap.size (rel8V (patsH l).length A8 m8 c8))) := below_setRow (below_new w3 _) (Nat.le_refl _) _
  go_upto_region 2 with (first
    | (refine wpList_alloced (allocR8 _) ?_)
    | (refine wpList_store_row rfl 110 _ _ (by rfl) w3.heap.size (rel8V (patsH l).length A8 m8 c8) (by rfl) (by rfl) _ _ KZ.out infoR8 rfl rel8V_one ?_))
  generalize ((w3.alloc (.cells #[.int .i64 0, .slice none 0 0] 110)).setRow w3.heap.size (rel8V (patsH l).length A8 m8 c8)) = w4 at *
  have R8 := Lib.hid (R8.out.ext BN.out)
  have KH := Lib.hid (KH.out.ext BN.out)
  have PT := Lib.hid (PT.out.ext BN.out)
  have B4 := Lib.hid (B3.out.trans (BN.out.mono B3.out.size))
  clear KZ B3 BN
  generalize w3.heap.size = gb at *
  have PL : Hid ((patsH l).length = (namesH l).length) := patsH_len l
  have PA : Hid (∀ (j : Nat) (p : PatV), (patsH l)[j]? = some p → (namesH l)[j]? = some p.1) := fun j p h => (patsH_at h).1
  generalize hD : namesH l = D at *
  generalize patsH l = ps at *
  generalize hR : relH l = R at *
  replace hD := Lib.hid hD
  replace hR := Lib.hid hR
  have BR := Lib.hid (Below.refl w4.heap.size w4)
  go_wp2_with fail
  go_loopw [5, 4] (fun v s wr => ∃ k : Nat, k ≤ ps.length ∧ v = .int .i64 k ∧ Hid (wr.ownsRow w4.heap.size 41 2 s (someK D (headR R D.length) k).length ((someK D (headR R D.length) k).flatMap encP)) ∧ Hid (Below w4.heap.size w4 wr)) (fun v _ _ => ps.length - (intOf v).toNat)
  case atStart => exact ⟨0, by omega, rfl, World.ownsRow_nil _ _ _ _, BR.out⟩
  case round =>
    clear BR
    obtain ⟨k, hk, rfl, O, B⟩ := hrel
    have hk0 : (0 : Int) ≤ (k : Int) := by omega
    have y0 : wr.cell? ⟨gh, 0, none⟩ = some (.slice A ps.length c) := (KH.out.ext B.out).cell 0
    by_cases hlt : k < ps.length
    · have hlk : (k : Int) < (ps.length : Int) := by omega
      obtain ⟨b, o, x, r, rfl, hb, hx, pa, hr⟩ := PT.out.at_ hlt
      obtain ⟨⟨A1, c1, A2, c2, rfl, _, _⟩, _, _⟩ := pa
      have hd := PA.out k x hx
      have SY := Lib.hid (fun hq => someK_yes (D := D) (q := headR R D.length) hd hq)
      have SN := Lib.hid (fun hq => someK_no (D := D) (q := headR R D.length) (k := k) hq)
      have hsl := someK_len D (headR R D.length) k
      have RA := Lib.hid (rangeAt_below (pid_range hr) B.out hb)
      have hbl : Hid (b < wr.heap.size) := Nat.lt_of_lt_of_le hb B.out.size
      have KR := Lib.hid (KN.out.ext B.out)
      have KG := Lib.hid (KH.out.ext B.out)
      have R9 := Lib.hid (R8.out.ext B.out)
      have BI := Lib.hid (Below.refl wr.heap.size wr)
      obtain ⟨A', c', rfl, _, _⟩ := Sl.of_own O.out
      clear hr hb hx hd
      go_wp2_with fail
      clear y0
      go_loopw [7, 6] (fun v s wi => ∃ j : Nat, j ≤ ps.length ∧ v = .int .i64 j ∧ s = .bool (headK R k j) ∧ Hid (Below wr.heap.size wr wi)) (fun v _ _ => ps.length - (intOf v).toNat)
      case atStart => exact ⟨0, by omega, rfl, rfl, BI.out⟩
      case round =>
        clear BI
        obtain ⟨j, hj, rfl, rfl, BJ⟩ := hrel
        have hj0 : (0 : Int) ≤ (j : Int) := by omega
        have y0 : wr.cell? ⟨gh, 0, none⟩ = some (.slice (some ⟨b, o, none⟩) ps.length c) := (KG.out.ext BJ.out).cell 0
        by_cases hjl : j < ps.length
        · have hjk : (j : Int) < (ps.length : Int) := by omega
          have HJ := Lib.hid (headK_next R k j)
          have KI := Lib.hid (KR.out.ext BJ.out)
          have HS : Hid (Calls Try.prog 75 #[.agg (rel8V ps.length A8 m8 c8), .int .i64 (k : Int), .int .i64 (j : Int)] wr (RetB wr (.bool (R k j)))) := by
            have := has8r_any (R9.out.ext BJ.out) (k : Int) (j : Int)
            rwa [hasR_nat] at this
          cases hh : headK R k j
          · have E : Hid (headK R k (j + 1) = false) := by rw [Hid, HJ.out, hh]; rfl
            go_wp2_with fail
            go_roundw
            case rel => exact ⟨j + 1, by omega, by go_num, by rw [E.out], BJ.out⟩
            case measure => simp [intOf]; omega
          · by_cases hjj : j = k
            · have hji : (j : Int) = (k : Int) := by omega
              have E : Hid (headK R k (j + 1) = true) := by rw [Hid, HJ.out, hh]; simp [hjj]
              go_wp2_with fail
              go_roundw
              case rel => exact ⟨j + 1, by omega, by go_num, by rw [E.out], BJ.out⟩
              case measure => simp [intOf]; omega
            · have hji : ¬ (j : Int) = (k : Int) := by omega
              have hje : ((j : Int) == (k : Int)) = false := beq_false_of_ne hji
              have E : Hid (headK R k (j + 1) = !R k j) := by rw [Hid, HJ.out, hh]; simp [hjj]
              generalize R k j = rr at *
              go_wp2_with (refine wpList_load_rowG (by kernel_rfl) 110 _ (by rfl) gb (by rfl) _ _ _ _ KI.out underR8 rfl infoR8 ?_)
              refine HS.out.mono ?_
              rintro e w6 ⟨rfl, b6⟩
              have B6 := Lib.hid (BJ.out.trans (b6.mono BJ.out.size))
              go_wp2_with fail
              go_roundw
              case rel => exact ⟨j + 1, by omega, by go_num, by rw [E.out], B6.out⟩
              case measure => simp [intOf]; omega
        · have hjk : ¬ (j : Int) < (ps.length : Int) := by omega
          have hjn : j = D.length := by have := PL.out; omega
          have HQ : Hid (headK R k j = headR R D.length k) := by rw [Hid, hjn]; rfl
          have O3 := Lib.hid (own_ext O.out BJ.out)
          have B3 := Lib.hid (B.out.trans (BJ.out.mono B.out.size))
          have RZ := Lib.hid (rangeAt_below RA.out BJ.out hbl.out)
          clear O B KR KG R9 RA
          have hbs := B3.out.size
          cases hh : headK R k j
          · have E := Lib.hid (SN.out (HQ.out ▸ hh))
            go_wp2_with fail
            go_roundw
            case rel => exact ⟨k + 1, by omega, by go_num, by rw [E.out]; exact O3.out, B3.out⟩
            case measure => simp [intOf]; omega
          · have E := Lib.hid (SY.out (HQ.out ▸ hh))
            go_wp2_with (first
              | (refine wpList_load_mid rfl 41 _ (by rfl) b (o + k * 4) (by rfl) _ _ RZ.out underPid rfl infoPid ?_)
              | (refine wpList_lit1 pidSl (encP_len x.1) (by omega) (by rfl) ?_)
              | (at_builtin; refine wpList_push pidSl O3.out (encP x.1) rfl (encP_one _) hbs (by omega) (by unfold maxLen; omega) (by rfl) (by rfl) (by rfl) ?_; intro v1 w6 own1 bel1))
            have B5 := Lib.hid (B3.out.trans bel1)
            have O5 : Hid (w6.ownsRow w4.heap.size 41 2 v1 (someK D (headR R D.length) (k + 1)).length ((someK D (headR R D.length) (k + 1)).flatMap encP)) := by
              rw [Hid, E.out, flat_snocP, List.length_append]; exact own1
            clear own1 bel1 O3 B3 y0 RZ
            go_roundw
            case rel => exact ⟨k + 1, by omega, by go_num, O5.out, B5.out⟩
            case measure => simp [intOf]; omega
    · have hlk : ¬ (k : Int) < (ps.length : Int) := by omega
      have hkl : k = D.length := by have := PL.out; omega
      rw [hkl] at O
      have O5 := Lib.hid (own_rebase (base' := w.heap.size) O.out fun k e => Nat.le_trans B4.out.size (O.out.lt k e).1)
      have B5 := Lib.hid (B4.out.trans (B.out.mono B4.out.size))
      clear O B
      go_wp2
      go_ret
      exact ⟨_, rfl, O5.out, B5.out⟩
end Go.Proofs.Ytnhbbggpgieipaa

/- The document's answer: what is left without one: plain. -/
namespace Go.Proofs.Ytnhbbggpgieipaa
open Go.RowKit

theorem mem_someK {D : List PidV} (hD : D.Nodup) {q : Nat → Bool} {i k : Nat} {x : PidV} (h : D[i]? = some x) : x ∈ someK D q k ↔ i < k ∧ q i = true := by
  unfold someK
  rw [List.mem_filterMap]
  constructor
  · rintro ⟨j, hj, hx⟩
    obtain ⟨h1, h2⟩ := List.mem_filter.1 hj
    have e : j = i := by
      have a := placeD_at hD hx
      have b := placeD_at hD h
      omega
    subst e
    exact ⟨List.mem_range.1 h1, h2⟩
  · rintro ⟨h1, h2⟩
    exact ⟨i, List.mem_filter.2 ⟨List.mem_range.2 h1, h2⟩, h⟩
/-- is i the one, or among the first j that are told -/
def goneK (d : PidV) (L : List PidV) (x : PidV) (j : Nat) : Bool := decide (x = d) || (L.take j).any fun y => decide (y = x)
theorem goneK_next {d : PidV} {L : List PidV} {x : PidV} {j : Nat} {y : PidV} (h : L[j]? = some y) : goneK d L x (j + 1) = (goneK d L x j || decide (y = x)) := by
  unfold goneK
  rw [List.take_add_one, h, List.any_append, Bool.or_assoc]
  simp
theorem goneK_all {D : List PidV} (hD : D.Nodup) {R : Nat → Nat → Bool} {d x : PidV} {i : Nat} (h : D[i]? = some x) :
    (!goneK d (someD D fun i => hasR R (placeD D d) i) x (someD D fun i => hasR R (placeD D d) i).length) = withoutR R (placeD D d) i := by
  unfold goneK withoutR
  rw [List.take_length, Bool.not_or]
  have hi : i < D.length := by
    rcases Nat.lt_or_ge i D.length with h1 | h1
    · exact h1
    · rw [List.getElem?_eq_none h1] at h; cases h
  have e1 : decide (x = d) = decide ((i : Int) = placeD D d) := by
    apply decide_eq_decide.2
    constructor
    · rintro rfl
      exact (placeD_at hD h).symm
    · intro e
      rcases placeD_cases D d with ⟨_, e2⟩ | ⟨k, hk, e2, _⟩
      · omega
      · have : i = k := by omega
        subst this
        rw [h] at hk
        injection hk
  have e2 : ((someD D fun i => hasR R (placeD D d) i).any fun y => decide (y = x)) = hasR R (placeD D d) i := by
    rw [Bool.eq_iff_iff, List.any_eq_true]
    constructor
    · rintro ⟨y, hy, e⟩
      have e := of_decide_eq_true e
      subst e
      exact ((mem_someK hD h).1 hy).2
    · intro e
      exact ⟨x, (mem_someK hD h).2 ⟨hi, e⟩, decide_eq_true rfl⟩
  rw [e1, e2]
end Go.Proofs.Ytnhbbggpgieipaa

/- The document's answer: what is left without one: walked. -/
namespace Go.Proofs.Ytnhbbggpgieipaa
open Go.RowKit

set_option maxRecDepth 100000 in
set_option maxHeartbeats 8000000 in
theorem rwithout48_any {w : World} {v : Value} {l : List PatV} (h : H8At w v l) (hm : l.length ≤ 100) (hq : ∀ p ∈ l, p.2.1.length ≤ 1000) (d : PidV) :
    Calls Try.prog 41 #[v, .agg (encP d).toArray] w (OwnedRet w 41 2 (someD (namesH l) fun i => withoutR (relH l) (placeD (namesH l) d) i).length ((someD (namesH l) fun i => withoutR (relH l) (placeD (namesH l) d) i).flatMap encP)) := by
  have hpl := patsH_le l
  have ND := Lib.hid (namesH_nodup l)
  obtain ⟨A, c, rfl, pt⟩ := h
  have KH : Hid (Blk ((w.alloc (.cells (hang48V A (patsH l).length c) 64)).alloc (.cells (encP d).toArray 41)) w.heap.size 64 (hang48V A (patsH l).length c)) := (Blk.new _ _ _).alloc _
  have KP : Hid (Blk ((w.alloc (.cells (hang48V A (patsH l).length c) 64)).alloc (.cells (encP d).toArray 41)) (w.heap.size + 1) 41 (encP d).toArray) := Blk.newAt (by simp) _ _
  have B0 : Hid (Below w.heap.size w ((w.alloc (.cells (hang48V A (patsH l).length c) 64)).alloc (.cells (encP d).toArray 41))) := ((Below.refl _ _).alloc (Nat.le_refl _) _).alloc (by simp) _
  have PT := Lib.hid (pt.ext B0.out)
  clear pt
  go_enter Try.func41, Try.ntmps41
  go_upto_region 1 with fail
  generalize (w.alloc (.cells (hang48V A (patsH l).length c) 64)).alloc (.cells (encP d).toArray 41) = w2 at *
  obtain ⟨gp, hgp⟩ : ∃ gp, gp = w.heap.size + 1 := ⟨_, rfl⟩
  obtain ⟨gh, hgh⟩ : ∃ gh, gh = w.heap.size := ⟨_, rfl⟩
  rw [← hgp] at KP ⊢
  rw [← hgh] at KH ⊢
  clear hgp hgh
  have HR := Lib.hid (rbelow48_any (v := .agg (hang48V A (patsH l).length c)) ⟨A, c, rfl, PT.out⟩ hm hq d)
  go_wp2_with (first
    | (refine wpList_load_row rfl 64 _ (by rfl) gh (by rfl) _ _ _ _ KH.out underH8 rfl infoH8 ?_)
    | (refine wpList_load_row rfl 41 _ (by rfl) gp (by rfl) _ _ _ _ KP.out underPid rfl infoPid ?_))
  refine HR.out.mono ?_
  rintro e w4 ⟨u, rfl, oL, b4⟩
  have OL := Lib.hid oL
  obtain ⟨AL, cL, rfl, _, _⟩ := Sl.of_own oL
  have KH := Lib.hid (KH.out.ext b4)
  have KP := Lib.hid (KP.out.ext b4)
  have PT := Lib.hid (PT.out.ext b4)
  have B4 := Lib.hid (B0.out.trans (b4.mono B0.out.size))
  clear oL b4 B0 HR
  have PL : Hid ((patsH l).length = (namesH l).length) := patsH_len l
  have PA : Hid (∀ (j : Nat) (p : PatV), (patsH l)[j]? = some p → (namesH l)[j]? = some p.1) := fun j p h => (patsH_at h).1
  generalize hD : namesH l = D at *
  generalize patsH l = ps at *
  generalize hR : relH l = R at *
  have GA : Hid (∀ (i : Nat) (x : PidV), D[i]? = some x → (!goneK d (someD D fun i => hasR R (placeD D d) i) x (someD D fun i => hasR R (placeD D d) i).length) = withoutR R (placeD D d) i) := fun i x h => goneK_all ND.out h
  replace hD := Lib.hid hD
  replace hR := Lib.hid hR
  have hLl := someK_len D (fun i => hasR R (placeD D d) i) D.length
  change (someD D fun i => hasR R (placeD D d) i).length ≤ D.length at hLl
  replace hLl : (someD D fun i => hasR R (placeD D d) i).length ≤ 100 := by have := PL.out; omega
  generalize (someD D fun i => hasR R (placeD D d) i) = L at *
  have BR := Lib.hid (Below.refl w4.heap.size w4)
  go_wp2_with fail
  go_loopw [7, 6] (fun v s wr => ∃ k : Nat, k ≤ ps.length ∧ v = .int .i64 k ∧ Hid (wr.ownsRow w4.heap.size 41 2 s (someK D (fun i => withoutR R (placeD D d) i) k).length ((someK D (fun i => withoutR R (placeD D d) i) k).flatMap encP)) ∧ Hid (Below w4.heap.size w4 wr)) (fun v _ _ => ps.length - (intOf v).toNat)
  case atStart => exact ⟨0, by omega, rfl, World.ownsRow_nil _ _ _ _, BR.out⟩
  case round =>
    clear BR
    obtain ⟨k, hk, rfl, O, B⟩ := hrel
    have hk0 : (0 : Int) ≤ (k : Int) := by omega
    have y0 : wr.cell? ⟨gh, 0, none⟩ = some (.slice A ps.length c) := (KH.out.ext B.out).cell 0
    by_cases hlt : k < ps.length
    · have hlk : (k : Int) < (ps.length : Int) := by omega
      obtain ⟨b, o, x, r, rfl, hb, hx, pa, hr⟩ := PT.out.at_ hlt
      obtain ⟨⟨A1, c1, A2, c2, rfl, _, _⟩, _, _⟩ := pa
      have hd := PA.out k x hx
      have GX := Lib.hid (GA.out k x.1 hd)
      have SY := Lib.hid (fun hq => someK_yes (D := D) (q := fun i => withoutR R (placeD D d) i) hd hq)
      have SN := Lib.hid (fun hq => someK_no (D := D) (q := fun i => withoutR R (placeD D d) i) (k := k) hq)
      have hsl := someK_len D (fun i => withoutR R (placeD D d) i) k
      have RA := Lib.hid (rangeAt_below (pid_range hr) B.out hb)
      have hbl : Hid (b < wr.heap.size) := Nat.lt_of_lt_of_le hb B.out.size
      have KQ := Lib.hid (KP.out.ext B.out)
      have KG := Lib.hid (KH.out.ext B.out)
      have OX := Lib.hid (own_ext OL.out B.out)
      have BI := Lib.hid (Below.refl wr.heap.size wr)
      obtain ⟨A', c', rfl, _, _⟩ := Sl.of_own O.out
      clear hr hb hx hd
      go_upto_region 6 with fail
      try go_frame
      clear y0
      have q0 : ∀ z : Ext wr, z.w.cell? ⟨gh, 0, none⟩ = some (.slice (some ⟨b, o, none⟩) ps.length c) := fun z => ((KH.out.ext B.out).ext z.h).cell 0
      have RX := Lib.hid (rangeAt_ext RA.out hbl.out)
      have G0 : Hid (goneK d L x.1 0 = decide (x.1 = d)) := by rw [Hid]; unfold goneK; simp
      have EQ := eqlP x.1 d
      rw [← G0.out] at EQ
      refine wp_region_ext mixedS (by kernel_rfl) ?_
      repeat (first
        | (refine wpQuiet_load_row KQ.out underPid rfl infoPid rfl rfl ?_; simp only [List.set_cons_succ, List.set_cons_zero])
        | (refine wpQuiet_load_mid RX.out underPid rfl infoPid rfl rfl ?_; simp only [List.set_cons_succ, List.set_cons_zero])
        | go_big_quiet_step (fail))
      refine wpQuiet_nil ?_
      rintro _ ⟨z, rfl⟩
      have O3 := Lib.hid (own_ext O.out z.h)
      have B3 := Lib.hid (B.out.trans (z.h.mono B.out.size))
      have OZ := Lib.hid (own_ext OX.out z.h)
      have KI := Lib.hid (KG.out.ext z.h)
      have RZ := Lib.hid (rangeAt_below RA.out z.h hbl.out)
      have hbz : Hid (b < z.w.heap.size) := Nat.lt_of_lt_of_le hbl.out z.h.size
      clear O B KQ KG OX RA RX q0 hbl BI EQ G0
      generalize z.w = w5 at *
      have BI := Lib.hid (Below.refl w5.heap.size w5)
      go_wp2_with fail
      go_loopw [9, 8] (fun v s wi => ∃ j : Nat, j ≤ L.length ∧ v = .int .i64 j ∧ s = .bool (goneK d L x.1 j) ∧ Hid (Below w5.heap.size w5 wi)) (fun v _ _ => L.length - (intOf v).toNat)
      case atStart => exact ⟨0, by omega, rfl, rfl, BI.out⟩
      case round =>
        clear BI
        obtain ⟨j, hj, rfl, rfl, BJ⟩ := hrel
        have hj0 : (0 : Int) ≤ (j : Int) := by omega
        by_cases hjl : j < L.length
        · have hjk : (j : Int) < (L.length : Int) := by omega
          obtain ⟨bL, oL, y, rfl, hbL, hy, ry⟩ := PidsAt.at_ (own_pids (own_ext OZ.out BJ.out) rfl) hjl
          have HJ := goneK_next (d := d) (x := x.1) hy
          have EQ := eqlP y x.1
          have q0 : ∀ z : Ext wr, z.w.cell? ⟨gh, 0, none⟩ = some (.slice (some ⟨b, o, none⟩) ps.length c) := fun z => ((KI.out.ext BJ.out).ext z.h).cell 0
          have RX := Lib.hid (rangeAt_ext (rangeAt_below RZ.out BJ.out hbz.out) (Nat.lt_of_lt_of_le hbz.out BJ.out.size))
          have RY := Lib.hid (rangeAt_ext ry hbL)
          clear ry hbL hy
          go_upto_region 10 with fail
          try go_frame
          cases hh : goneK d L x.1 j
          · rw [hh, Bool.false_or] at HJ
            rw [← HJ] at EQ
            replace HJ := Lib.hid HJ
            generalize hgj : goneK d L x.1 (j + 1) = gj at *
            replace hgj := Lib.hid hgj
            refine wp_region_ext mixedS (by kernel_rfl) ?_
            repeat (first
              | go_big_quiet_skip
              | (refine wpQuiet_load_mid RX.out underPid rfl infoPid rfl rfl ?_; simp only [List.set_cons_succ, List.set_cons_zero])
              | (refine wpQuiet_load_mid RY.out underPid rfl infoPid rfl rfl ?_; simp only [List.set_cons_succ, List.set_cons_zero])
              | go_big_quiet_step (fail))
            refine wpQuiet_nil ?_
            rintro _ ⟨z, rfl⟩
            have B6 := Lib.hid (BJ.out.trans (z.h.mono BJ.out.size))
            clear BJ q0 RX RY
            generalize z.w = w6 at *
            go_wp2_with fail
            go_roundw
            case rel => exact ⟨j + 1, by omega, by go_num, by rw [hgj.out], B6.out⟩
            case measure => simp [intOf]; omega
          · rw [hh, Bool.true_or] at HJ
            clear EQ
            refine wp_region_ext mixedS (by kernel_rfl) ?_
            repeat (first
              | go_big_quiet_skip
              | go_big_quiet_step (fail))
            refine wpQuiet_nil ?_
            rintro _ ⟨z, rfl⟩
            have B6 := Lib.hid (BJ.out.trans (z.h.mono BJ.out.size))
            clear BJ q0 RX RY
            generalize z.w = w6 at *
            go_wp2_with fail
            go_roundw
            case rel => exact ⟨j + 1, by omega, by go_num, by rw [HJ], B6.out⟩
            case measure => simp [intOf]; omega
        · have hjk : ¬ (j : Int) < (L.length : Int) := by omega
          have hjn : j = L.length := by omega
          have HQ : Hid ((!goneK d L x.1 j) = withoutR R (placeD D d) k) := by rw [Hid, hjn]; exact GX.out
          have O4 := Lib.hid (own_ext O3.out BJ.out)
          have B4' := Lib.hid (B3.out.trans (BJ.out.mono B3.out.size))
          have y0 : wr.cell? ⟨gh, 0, none⟩ = some (.slice (some ⟨b, o, none⟩) ps.length c) := (KI.out.ext BJ.out).cell 0
          have RW := Lib.hid (rangeAt_below RZ.out BJ.out hbz.out)
          clear O3 B3 KI RZ OZ
          have hbs := B4'.out.size
          cases hh : goneK d L x.1 j
          · have E := Lib.hid (SY.out (by rw [← HQ.out, hh]; rfl))
            go_wp2_with (first
              | (refine wpList_load_mid rfl 41 _ (by rfl) b (o + k * 4) (by rfl) _ _ RW.out underPid rfl infoPid ?_)
              | (refine wpList_lit1 pidSl (encP_len x.1) (by omega) (by rfl) ?_)
              | (at_builtin; refine wpList_push pidSl O4.out (encP x.1) rfl (encP_one _) hbs (by omega) (by unfold maxLen; omega) (by rfl) (by rfl) (by rfl) ?_; intro v1 w6 own1 bel1))
            have B5 := Lib.hid (B4'.out.trans bel1)
            have O5 : Hid (w6.ownsRow w4.heap.size 41 2 v1 (someK D (fun i => withoutR R (placeD D d) i) (k + 1)).length ((someK D (fun i => withoutR R (placeD D d) i) (k + 1)).flatMap encP)) := by
              rw [Hid, E.out, flat_snocP, List.length_append]; exact own1
            clear own1 bel1 O4 B4' y0 RW
            go_roundw
            case rel => exact ⟨k + 1, by omega, by go_num, O5.out, B5.out⟩
            case measure => simp [intOf]; omega
          · have E := Lib.hid (SN.out (by rw [← HQ.out, hh]; rfl))
            go_wp2_with fail
            go_roundw
            case rel => exact ⟨k + 1, by omega, by go_num, by rw [E.out]; exact O4.out, B4'.out⟩
            case measure => simp [intOf]; omega
    · have hlk : ¬ (k : Int) < (ps.length : Int) := by omega
      have hkl : k = D.length := by have := PL.out; omega
      rw [hkl] at O
      have O5 := Lib.hid (own_rebase (base' := w.heap.size) O.out fun k e => Nat.le_trans B4.out.size (O.out.lt k e).1)
      have B5 := Lib.hid (B4.out.trans (B.out.mono B4.out.size))
      clear O B
      go_wp2
      go_ret
      exact ⟨_, rfl, by rw [hD.out, hR.out]; exact O5.out, B5.out⟩
end Go.Proofs.Ytnhbbggpgieipaa

/- Of any patches what hangs on what is as the document says: walked. -/
namespace Go.Proofs.Ytnhbbggpgieipaa
open Go.RowKit

theorem pid_flat : ∀ {cs : List Value}, FlatOk [.int .u8, .int .u16] cs → ∃ x : PidV, cs = encP x
  | [a, b], h => by
    obtain ⟨⟨x, rfl, hx⟩, ⟨y, rfl, hy⟩, _⟩ := h
    obtain ⟨x, rfl⟩ := fin8_of hx
    obtain ⟨y, rfl⟩ := fin16_of hy
    exact ⟨(x, y), rfl⟩
theorem allocH8 (w : World) : (Instr.alloc 64 true (.tuple #[])).run Try.prog w = .ok (.pointer (some ⟨w.heap.size, 0, none⟩)) (w.alloc (.cells #[.slice none 0 0] 64)) := by kernel_rfl
set_option maxRecDepth 100000 in
set_option maxHeartbeats 16000000 in
theorem hangSays_walk (w : World) (l : List PatV) (A : Option Addr) (n c : Nat) (hm : n ≤ maxLen) (h : PatsAt w A n l) (d : PidV) :
    Calls Try.prog 7 #[.slice A n c, .agg (encP d).toArray] w (RetB w (.bool true)) := by
  have H0 := Lib.hid h
  have KP : Hid (Blk (w.alloc (.cells (encP d).toArray 41)) w.heap.size 41 (encP d).toArray) := Blk.new _ _ _
  have B0 : Hid (Below w.heap.size w (w.alloc (.cells (encP d).toArray 41))) := below_new _ _
  clear h
  go_enter Try.func7, Try.ntmps7
  go_upto_region 1 with fail
  generalize (w.alloc (.cells (encP d).toArray 41)) = w2 at *
  obtain ⟨gd, hgd⟩ : ∃ gd, gd = w.heap.size := ⟨_, rfl⟩
  rw [← hgd] at KP ⊢
  replace hgd := Lib.hid hgd
  have HF := Lib.hid (few20_any l w2 A n c 10 (H0.out.ext B0.out) hm)
  cases hf : fewsB l 10
  · rw [fewsN_false hf] at HF
    go_wp2_with fail
    refine HF.out.mono ?_
    rintro e w3 ⟨rfl, b3⟩
    have B3 := Lib.hid (B0.out.trans (b3.mono B0.out.size))
    clear b3 HF
    go_wp2_with fail
    refine (works48 _).mono ?_
    rintro e w4 ⟨rfl, b4⟩
    have B4 := Lib.hid (B3.out.trans (b4.mono B3.out.size))
    clear b4
    go_wp2
    go_ret
    exact ⟨rfl, B4.out⟩
  · rw [fewsN_true hf] at HF
    have HQ := Lib.hid (fews_at hf)
    have hn10 : n ≤ 10 := by have h1 := HQ.out.1; have h2 := H0.out.len; omega
    have HD : Hid (∀ p ∈ l, p.2.1.length ≤ 1000) := fun p hp => by
      unfold fewsB at hf
      rw [Bool.and_eq_true, List.all_eq_true] at hf
      have h1 := hf.2 p hp
      unfold fewOne fewP at h1
      simp only [Bool.and_eq_true, decide_eq_true_eq] at h1
      omega
    go_wp2_with fail
    refine HF.out.mono ?_
    rintro e w3 ⟨rfl, b3⟩
    have B3 := Lib.hid (B0.out.trans (b3.mono B0.out.size))
    have KP3 := Lib.hid (KP.out.ext b3)
    clear b3 HF hf B0 KP
    have PT := Lib.hid (H0.out.ext B3.out)
    have hln : l.length ≤ 100 := by have := PT.out.len; omega
    have NL : (namesH l).length ≤ 10 := by have := namesH_len l; have := PT.out.len; omega
    have LN1 : Hid ((namesH l).length ≤ maxLen) := by rw [Hid]; unfold maxLen; omega
    have LN2 : Hid ((someD (namesH l) fun i => hasR (relH l) i (placeD (namesH l) d)).length ≤ maxLen) := by
      have h1 := someK_len (namesH l) (fun i => hasR (relH l) i (placeD (namesH l) d)) (namesH l).length
      rw [Hid]; unfold maxLen someD; omega
    have LN3 : Hid ((someD (namesH l) fun i => hasR (relH l) (placeD (namesH l) d) i).length ≤ maxLen) := by
      have h1 := someK_len (namesH l) (fun i => hasR (relH l) (placeD (namesH l) d) i) (namesH l).length
      rw [Hid]; unfold maxLen someD; omega
    have LN4 : Hid ((someD (namesH l) (headR (relH l) (namesH l).length)).length ≤ maxLen) := by
      have h1 := someK_len (namesH l) (headR (relH l) (namesH l).length) (namesH l).length
      rw [Hid]; unfold maxLen someD; omega
    have LN5 : Hid ((someD (namesH l) fun i => withoutR (relH l) (placeD (namesH l) d) i).length ≤ maxLen) := by
      have h1 := someK_len (namesH l) (fun i => withoutR (relH l) (placeD (namesH l) d) i) (namesH l).length
      rw [Hid]; unfold maxLen someD; omega
    have LN6 : Hid ((namesAt (namesH l) (ordR (relH l) (namesH l).length)).length ≤ maxLen) := by
      have h1 := namesAt_len (namesH l) (ordR (relH l) (namesH l).length)
      have h2 := (ordR_told (relH_trans l)).2
      rw [Hid]; unfold maxLen; omega
    clear NL
    have hA1 : ∀ args u, (callFunc 32 args).run Try.prog u = .ok (.enter 32 args) u := enters_of Try.func32 (by kernel_rfl) rfl
    have hA2 : ∀ args u, (callFunc 33 args).run Try.prog u = .ok (.enter 33 args) u := enters_of Try.func33 (by kernel_rfl) rfl
    have hB1 : ∀ args u, (callFunc 34 args).run Try.prog u = .ok (.enter 34 args) u := enters_of Try.func34 (by kernel_rfl) rfl
    have hB2 : ∀ args u, (callFunc 35 args).run Try.prog u = .ok (.enter 35 args) u := enters_of Try.func35 (by kernel_rfl) rfl
    have hC1 : ∀ args u, (callFunc 36 args).run Try.prog u = .ok (.enter 36 args) u := enters_of Try.func36 (by kernel_rfl) rfl
    have hC2 : ∀ args u, (callFunc 37 args).run Try.prog u = .ok (.enter 37 args) u := enters_of Try.func37 (by kernel_rfl) rfl
    have hD1 : ∀ args u, (callFunc 38 args).run Try.prog u = .ok (.enter 38 args) u := enters_of Try.func38 (by kernel_rfl) rfl
    have hD2 : ∀ args u, (callFunc 39 args).run Try.prog u = .ok (.enter 39 args) u := enters_of Try.func39 (by kernel_rfl) rfl
    have hE1 : ∀ args u, (callFunc 40 args).run Try.prog u = .ok (.enter 40 args) u := enters_of Try.func40 (by kernel_rfl) rfl
    have hE2 : ∀ args u, (callFunc 41 args).run Try.prog u = .ok (.enter 41 args) u := enters_of Try.func41 (by kernel_rfl) rfl
    have hF1 : ∀ args u, (callFunc 42 args).run Try.prog u = .ok (.enter 42 args) u := enters_of Try.func42 (by kernel_rfl) rfl
    have hF2 : ∀ args u, (callFunc 43 args).run Try.prog u = .ok (.enter 43 args) u := enters_of Try.func43 (by kernel_rfl) rfl
    have hcS : ∀ args u, (callFunc 31 args).run Try.prog u = .ok (.enter 31 args) u := enters_of Try.func31 (by kernel_rfl) rfl
    have hcW : ∀ args u, (callFunc 28 args).run Try.prog u = .ok (.enter 28 args) u := enters_of Try.func28 (by kernel_rfl) rfl
    go_wp2_with fail
    refine (of48_any PT.out (by omega) HD.out).mono ?_
    rintro e w4 ⟨gH, rfl, hA, b4⟩
    have HA := Lib.hid hA
    have PT4 := Lib.hid (PT.out.ext b4)
    have KP := Lib.hid (KP3.out.ext b4)
    have BF := Lib.hid (B3.out.trans (b4.mono B3.out.size))
    clear hA b4 B3 PT KP3
    go_wp2_with fail
    refine (rof48_any PT4.out (by omega)).mono ?_
    rintro e w5 ⟨_, rfl, ⟨AX, cX, rfl, hX⟩, b5⟩
    have HX : Hid (H8At w5 (.agg (hang48V AX (patsH l).length cX)) l) := ⟨AX, cX, rfl, hX⟩
    have HA := Lib.hid (HA.out.ext b5)
    have KP := Lib.hid (KP.out.ext b5)
    have BF := Lib.hid (BF.out.trans (b5.mono BF.out.size))
    clear hX b5 PT4
    have KZ : Hid (Blk (w5.alloc (.cells #[.slice none 0 0] 64)) w5.heap.size 64 #[.slice none 0 0]) := Blk.new _ _ _
    have KX : Hid (Blk ((w5.alloc (.cells #[.slice none 0 0] 64)).setRow w5.heap.size (hang48V AX (patsH l).length cX)) w5.heap.size 64 (hang48V AX (patsH l).length cX)) := KZ.out.row _
    have BN : Hid (Below w5.heap.size w5 ((w5.alloc (.cells #[.slice none 0 0] 64)).setRow w5.heap.size (hang48V AX (patsH l).length cX))) := below_setRow (below_new w5 _) (Nat.le_refl _) _
    go_upto_region 4 with (first
      | (refine wpList_alloced (allocH8 _) ?_)
      | (refine wpList_store_row rfl 64 _ _ (by rfl) w5.heap.size (hang48V AX (patsH l).length cX) (by rfl) (by rfl) _ _ KZ.out infoH8 rfl hang48V_one ?_))
    generalize ((w5.alloc (.cells #[.slice none 0 0] 64)).setRow w5.heap.size (hang48V AX (patsH l).length cX)) = w6 at *
    have HA := Lib.hid (HA.out.ext BN.out)
    have HX := Lib.hid (HX.out.ext BN.out)
    have KP := Lib.hid (KP.out.ext BN.out)
    have BF := Lib.hid (BF.out.trans (BN.out.mono BF.out.size))
    clear KZ BN
    generalize w5.heap.size = gx at *
    go_upto_region 4 with fail
    try go_frame
    refine wp_region_held (S := fun w' => Below w6.heap.size w6 w') mixedS ?_
    change wpAnyH _ _ _ _ _ _ _ _ w6.drew
    have B31 : Hid (Below w6.heap.size w6 w6.drew) := (Below.refl _ _).drew
    generalize w6.drew = w31 at B31 ⊢
    simp only [List.size_toArray, List.length_cons, List.length_nil]
    refine takeV (i := 0) (d := 15) (v := .pointer (some ⟨gH, 0, none⟩)) rfl (by kernel_rfl) (by kernel_rfl) (by kernel_rfl) (fun _ _ _ h => h) rfl (fun _ _ => exMove (v := .pointer (some ⟨gH, 0, none⟩)) rfl) B31.out ?_
    simp only [Act.put, List.setIfInBounds_toArray, List.set_cons_zero, List.set_cons_succ]
    refine takeV (i := 2) (d := 17) (v := .agg (hang48V AX (patsH l).length cX)) rfl (by kernel_rfl) (by kernel_rfl) (by kernel_rfl) (fun _ _ _ h => h) rfl (fun w' h => exMid rfl ((KX.out.ext h).range) underH8 rfl infoH8) B31.out ?_
    simp only [Act.put, List.setIfInBounds_toArray, List.set_cons_zero, List.set_cons_succ]
    refine wpAnyH_all (rs := [1]) (by kernel_rfl) (by simp) ?_
    intro i hi
    simp only [List.mem_cons, List.not_mem_nil, or_false] at hi
    subst hi
    refine wpOp_of rfl rfl (wp_called (args := #[.pointer (some ⟨gH, 0, none⟩)]) hA1 (by simp only [List.map_toArray, List.map_cons, List.map_nil]; rfl) (all48_any (HA.out.ext B31.out)) ?_)
    rintro e w_1 ⟨_, rfl, o_3, h_2⟩
    obtain ⟨A_4, c_5, rfl, _, p_6⟩ := PidsAt.of_own o_3 rfl
    have P_7 := Lib.hid p_6
    refine ⟨_, rfl, ext_trans B31.out h_2, ?_⟩
    simp only [Act.put, List.setIfInBounds_toArray, List.set_cons_zero, List.set_cons_succ]
    have B_8 := Lib.hid (ext_trans B31.out h_2)
    clear B31
    clear o_3 h_2 p_6
    refine wpAnyH_all (rs := [3]) (by kernel_rfl) (by simp) ?_
    intro i hi
    simp only [List.mem_cons, List.not_mem_nil, or_false] at hi
    subst hi
    refine wpOp_of rfl rfl (wp_called (args := #[.agg (hang48V AX (patsH l).length cX)]) hA2 (by simp only [List.map_toArray, List.map_cons, List.map_nil]; rfl) (rall48_any (HX.out.ext B_8.out) hln) ?_)
    rintro e w_9 ⟨_, rfl, o_11, h_10⟩
    obtain ⟨A_12, c_13, rfl, _, p_14⟩ := PidsAt.of_own o_11 rfl
    have P_15 := Lib.hid p_14
    refine ⟨_, rfl, ext_trans B_8.out h_10, ?_⟩
    simp only [Act.put, List.setIfInBounds_toArray, List.set_cons_zero, List.set_cons_succ]
    have B_16 := Lib.hid (ext_trans B_8.out h_10)
    have F_17 := Lib.hid (P_7.out.ext h_10)
    clear B_8 P_7
    clear o_11 h_10 p_14
    refine wpAnyH_all (rs := [4]) (by kernel_rfl) (by simp) ?_
    intro i hi
    simp only [List.mem_cons, List.not_mem_nil, or_false] at hi
    subst hi
    refine wpOp_of rfl rfl (wp_called (args := #[.slice A_4 (namesH l).length c_5, .slice A_12 (namesH l).length c_13]) hcS (by simp only [List.map_toArray, List.map_cons, List.map_nil]; rfl) ((rsameP _ _ w_9 _ _ _ _ _ _ F_17.out P_15.out LN1.out).mono fun _ _ => RetB.ofD) ?_)
    rintro e w_18 ⟨rfl, h_19⟩
    rw [decide_eq_true rfl]
    refine ⟨_, rfl, ext_trans B_16.out h_19, ?_⟩
    simp only [Act.put, List.setIfInBounds_toArray, List.set_cons_zero, List.set_cons_succ]
    have B_20 := Lib.hid (ext_trans B_16.out h_19)
    have F_21 := Lib.hid (F_17.out.ext h_19)
    have F_22 := Lib.hid (P_15.out.ext h_19)
    clear B_16 F_17 P_15
    clear h_19
    refine takeV (i := 5) (d := 20) (v := .bool true) rfl (by kernel_rfl) (by kernel_rfl) (by kernel_rfl) (fun _ _ _ h => h) rfl (fun _ _ => exMove (v := .bool true) rfl) B_20.out ?_
    simp only [Act.put, List.setIfInBounds_toArray, List.set_cons_zero, List.set_cons_succ]
    refine takeV (i := 6) (d := 21) (v := .pointer (some ⟨gH, 0, none⟩)) rfl (by kernel_rfl) (by kernel_rfl) (by kernel_rfl) (fun _ _ _ h => h) rfl (fun _ _ => exMove (v := .pointer (some ⟨gH, 0, none⟩)) rfl) B_20.out ?_
    simp only [Act.put, List.setIfInBounds_toArray, List.set_cons_zero, List.set_cons_succ]
    refine takeV (i := 7) (d := 22) (v := .agg (encP d).toArray) rfl (by kernel_rfl) (by kernel_rfl) (by kernel_rfl) (fun _ _ _ h => h) rfl (fun w' h => exMid rfl ((KP.out.ext h).range) underPid rfl infoPid) B_20.out ?_
    simp only [Act.put, List.setIfInBounds_toArray, List.set_cons_zero, List.set_cons_succ]
    refine takeV (i := 9) (d := 24) (v := .agg (hang48V AX (patsH l).length cX)) rfl (by kernel_rfl) (by kernel_rfl) (by kernel_rfl) (fun _ _ _ h => h) rfl (fun w' h => exMid rfl ((KX.out.ext h).range) underH8 rfl infoH8) B_20.out ?_
    simp only [Act.put, List.setIfInBounds_toArray, List.set_cons_zero, List.set_cons_succ]
    refine takeV (i := 10) (d := 25) (v := .agg (encP d).toArray) rfl (by kernel_rfl) (by kernel_rfl) (by kernel_rfl) (fun _ _ _ h => h) rfl (fun w' h => exMid rfl ((KP.out.ext h).range) underPid rfl infoPid) B_20.out ?_
    simp only [Act.put, List.setIfInBounds_toArray, List.set_cons_zero, List.set_cons_succ]
    refine wpAnyH_all (rs := [8]) (by kernel_rfl) (by simp) ?_
    intro i hi
    simp only [List.mem_cons, List.not_mem_nil, or_false] at hi
    subst hi
    refine wpOp_of rfl rfl (wp_called (args := #[.pointer (some ⟨gH, 0, none⟩), .agg (encP d).toArray]) hB1 (by simp only [List.map_toArray, List.map_cons, List.map_nil]; rfl) (above48_any (HA.out.ext B_20.out) d) ?_)
    rintro e w_23 ⟨_, rfl, o_25, h_24⟩
    obtain ⟨A_26, c_27, rfl, _, p_28⟩ := PidsAt.of_own o_25 rfl
    have P_29 := Lib.hid p_28
    refine ⟨_, rfl, ext_trans B_20.out h_24, ?_⟩
    simp only [Act.put, List.setIfInBounds_toArray, List.set_cons_zero, List.set_cons_succ]
    have B_30 := Lib.hid (ext_trans B_20.out h_24)
    have F_31 := Lib.hid (F_21.out.ext h_24)
    have F_32 := Lib.hid (F_22.out.ext h_24)
    clear B_20 F_21 F_22
    clear o_25 h_24 p_28
    refine wpAnyH_all (rs := [11]) (by kernel_rfl) (by simp) ?_
    intro i hi
    simp only [List.mem_cons, List.not_mem_nil, or_false] at hi
    subst hi
    refine wpOp_of rfl rfl (wp_called (args := #[.agg (hang48V AX (patsH l).length cX), .agg (encP d).toArray]) hB2 (by simp only [List.map_toArray, List.map_cons, List.map_nil]; rfl) (rabove48_any (HX.out.ext B_30.out) hln HD.out d) ?_)
    rintro e w_33 ⟨_, rfl, o_35, h_34⟩
    obtain ⟨A_36, c_37, rfl, _, p_38⟩ := PidsAt.of_own o_35 rfl
    have P_39 := Lib.hid p_38
    refine ⟨_, rfl, ext_trans B_30.out h_34, ?_⟩
    simp only [Act.put, List.setIfInBounds_toArray, List.set_cons_zero, List.set_cons_succ]
    have B_40 := Lib.hid (ext_trans B_30.out h_34)
    have F_41 := Lib.hid (F_31.out.ext h_34)
    have F_42 := Lib.hid (F_32.out.ext h_34)
    have F_43 := Lib.hid (P_29.out.ext h_34)
    clear B_30 F_31 F_32 P_29
    clear o_35 h_34 p_38
    refine wpAnyH_all (rs := [12]) (by kernel_rfl) (by simp) ?_
    intro i hi
    simp only [List.mem_cons, List.not_mem_nil, or_false] at hi
    subst hi
    refine wpOp_of rfl rfl (wp_called (args := #[.slice A_26 (someD (namesH l) fun i => hasR (relH l) i (placeD (namesH l) d)).length c_27, .slice A_36 (someD (namesH l) fun i => hasR (relH l) i (placeD (namesH l) d)).length c_37]) hcS (by simp only [List.map_toArray, List.map_cons, List.map_nil]; rfl) ((rsameP _ _ w_33 _ _ _ _ _ _ F_43.out P_39.out LN2.out).mono fun _ _ => RetB.ofD) ?_)
    rintro e w_44 ⟨rfl, h_45⟩
    rw [decide_eq_true rfl]
    refine ⟨_, rfl, ext_trans B_40.out h_45, ?_⟩
    simp only [Act.put, List.setIfInBounds_toArray, List.set_cons_zero, List.set_cons_succ]
    have B_46 := Lib.hid (ext_trans B_40.out h_45)
    have F_47 := Lib.hid (F_41.out.ext h_45)
    have F_48 := Lib.hid (F_42.out.ext h_45)
    have F_49 := Lib.hid (F_43.out.ext h_45)
    have F_50 := Lib.hid (P_39.out.ext h_45)
    clear B_40 F_41 F_42 F_43 P_39
    clear h_45
    refine takeV (i := 13) (d := 28) (v := .bool true) rfl (by kernel_rfl) (by kernel_rfl) (by kernel_rfl) (fun _ _ _ h => h) rfl (fun _ _ => exPickT (v := .bool true) rfl rfl) B_46.out ?_
    simp only [Act.put, List.setIfInBounds_toArray, List.set_cons_zero, List.set_cons_succ]
    refine takeV (i := 14) (d := 29) (v := .bool true) rfl (by kernel_rfl) (by kernel_rfl) (by kernel_rfl) (fun _ _ _ h => h) rfl (fun _ _ => exMove (v := .bool true) rfl) B_46.out ?_
    simp only [Act.put, List.setIfInBounds_toArray, List.set_cons_zero, List.set_cons_succ]
    refine takeV (i := 15) (d := 30) (v := .pointer (some ⟨gH, 0, none⟩)) rfl (by kernel_rfl) (by kernel_rfl) (by kernel_rfl) (fun _ _ _ h => h) rfl (fun _ _ => exMove (v := .pointer (some ⟨gH, 0, none⟩)) rfl) B_46.out ?_
    simp only [Act.put, List.setIfInBounds_toArray, List.set_cons_zero, List.set_cons_succ]
    refine takeV (i := 16) (d := 31) (v := .agg (encP d).toArray) rfl (by kernel_rfl) (by kernel_rfl) (by kernel_rfl) (fun _ _ _ h => h) rfl (fun w' h => exMid rfl ((KP.out.ext h).range) underPid rfl infoPid) B_46.out ?_
    simp only [Act.put, List.setIfInBounds_toArray, List.set_cons_zero, List.set_cons_succ]
    refine takeV (i := 18) (d := 33) (v := .agg (hang48V AX (patsH l).length cX)) rfl (by kernel_rfl) (by kernel_rfl) (by kernel_rfl) (fun _ _ _ h => h) rfl (fun w' h => exMid rfl ((KX.out.ext h).range) underH8 rfl infoH8) B_46.out ?_
    simp only [Act.put, List.setIfInBounds_toArray, List.set_cons_zero, List.set_cons_succ]
    refine takeV (i := 19) (d := 34) (v := .agg (encP d).toArray) rfl (by kernel_rfl) (by kernel_rfl) (by kernel_rfl) (fun _ _ _ h => h) rfl (fun w' h => exMid rfl ((KP.out.ext h).range) underPid rfl infoPid) B_46.out ?_
    simp only [Act.put, List.setIfInBounds_toArray, List.set_cons_zero, List.set_cons_succ]
    refine wpAnyH_all (rs := [17]) (by kernel_rfl) (by simp) ?_
    intro i hi
    simp only [List.mem_cons, List.not_mem_nil, or_false] at hi
    subst hi
    refine wpOp_of rfl rfl (wp_called (args := #[.pointer (some ⟨gH, 0, none⟩), .agg (encP d).toArray]) hC1 (by simp only [List.map_toArray, List.map_cons, List.map_nil]; rfl) (below48_any (HA.out.ext B_46.out) d) ?_)
    rintro e w_51 ⟨_, rfl, o_53, h_52⟩
    obtain ⟨A_54, c_55, rfl, _, p_56⟩ := PidsAt.of_own o_53 rfl
    have P_57 := Lib.hid p_56
    refine ⟨_, rfl, ext_trans B_46.out h_52, ?_⟩
    simp only [Act.put, List.setIfInBounds_toArray, List.set_cons_zero, List.set_cons_succ]
    have B_58 := Lib.hid (ext_trans B_46.out h_52)
    have F_59 := Lib.hid (F_47.out.ext h_52)
    have F_60 := Lib.hid (F_48.out.ext h_52)
    have F_61 := Lib.hid (F_49.out.ext h_52)
    have F_62 := Lib.hid (F_50.out.ext h_52)
    clear B_46 F_47 F_48 F_49 F_50
    clear o_53 h_52 p_56
    refine wpAnyH_all (rs := [20]) (by kernel_rfl) (by simp) ?_
    intro i hi
    simp only [List.mem_cons, List.not_mem_nil, or_false] at hi
    subst hi
    refine wpOp_of rfl rfl (wp_called (args := #[.agg (hang48V AX (patsH l).length cX), .agg (encP d).toArray]) hC2 (by simp only [List.map_toArray, List.map_cons, List.map_nil]; rfl) (rbelow48_any (HX.out.ext B_58.out) hln HD.out d) ?_)
    rintro e w_63 ⟨_, rfl, o_65, h_64⟩
    obtain ⟨A_66, c_67, rfl, _, p_68⟩ := PidsAt.of_own o_65 rfl
    have P_69 := Lib.hid p_68
    refine ⟨_, rfl, ext_trans B_58.out h_64, ?_⟩
    simp only [Act.put, List.setIfInBounds_toArray, List.set_cons_zero, List.set_cons_succ]
    have B_70 := Lib.hid (ext_trans B_58.out h_64)
    have F_71 := Lib.hid (F_59.out.ext h_64)
    have F_72 := Lib.hid (F_60.out.ext h_64)
    have F_73 := Lib.hid (F_61.out.ext h_64)
    have F_74 := Lib.hid (F_62.out.ext h_64)
    have F_75 := Lib.hid (P_57.out.ext h_64)
    clear B_58 F_59 F_60 F_61 F_62 P_57
    clear o_65 h_64 p_68
    refine wpAnyH_all (rs := [21]) (by kernel_rfl) (by simp) ?_
    intro i hi
    simp only [List.mem_cons, List.not_mem_nil, or_false] at hi
    subst hi
    refine wpOp_of rfl rfl (wp_called (args := #[.slice A_54 (someD (namesH l) fun i => hasR (relH l) (placeD (namesH l) d) i).length c_55, .slice A_66 (someD (namesH l) fun i => hasR (relH l) (placeD (namesH l) d) i).length c_67]) hcS (by simp only [List.map_toArray, List.map_cons, List.map_nil]; rfl) ((rsameP _ _ w_63 _ _ _ _ _ _ F_75.out P_69.out LN3.out).mono fun _ _ => RetB.ofD) ?_)
    rintro e w_76 ⟨rfl, h_77⟩
    rw [decide_eq_true rfl]
    refine ⟨_, rfl, ext_trans B_70.out h_77, ?_⟩
    simp only [Act.put, List.setIfInBounds_toArray, List.set_cons_zero, List.set_cons_succ]
    have B_78 := Lib.hid (ext_trans B_70.out h_77)
    have F_79 := Lib.hid (F_71.out.ext h_77)
    have F_80 := Lib.hid (F_72.out.ext h_77)
    have F_81 := Lib.hid (F_73.out.ext h_77)
    have F_82 := Lib.hid (F_74.out.ext h_77)
    have F_83 := Lib.hid (F_75.out.ext h_77)
    have F_84 := Lib.hid (P_69.out.ext h_77)
    clear B_70 F_71 F_72 F_73 F_74 F_75 P_69
    clear h_77
    refine takeV (i := 22) (d := 37) (v := .bool true) rfl (by kernel_rfl) (by kernel_rfl) (by kernel_rfl) (fun _ _ _ h => h) rfl (fun _ _ => exPickT (v := .bool true) rfl rfl) B_78.out ?_
    simp only [Act.put, List.setIfInBounds_toArray, List.set_cons_zero, List.set_cons_succ]
    refine takeV (i := 23) (d := 38) (v := .bool true) rfl (by kernel_rfl) (by kernel_rfl) (by kernel_rfl) (fun _ _ _ h => h) rfl (fun _ _ => exMove (v := .bool true) rfl) B_78.out ?_
    simp only [Act.put, List.setIfInBounds_toArray, List.set_cons_zero, List.set_cons_succ]
    refine takeV (i := 24) (d := 39) (v := .pointer (some ⟨gH, 0, none⟩)) rfl (by kernel_rfl) (by kernel_rfl) (by kernel_rfl) (fun _ _ _ h => h) rfl (fun _ _ => exMove (v := .pointer (some ⟨gH, 0, none⟩)) rfl) B_78.out ?_
    simp only [Act.put, List.setIfInBounds_toArray, List.set_cons_zero, List.set_cons_succ]
    refine takeV (i := 26) (d := 41) (v := .agg (hang48V AX (patsH l).length cX)) rfl (by kernel_rfl) (by kernel_rfl) (by kernel_rfl) (fun _ _ _ h => h) rfl (fun w' h => exMid rfl ((KX.out.ext h).range) underH8 rfl infoH8) B_78.out ?_
    simp only [Act.put, List.setIfInBounds_toArray, List.set_cons_zero, List.set_cons_succ]
    refine wpAnyH_all (rs := [25]) (by kernel_rfl) (by simp) ?_
    intro i hi
    simp only [List.mem_cons, List.not_mem_nil, or_false] at hi
    subst hi
    refine wpOp_of rfl rfl (wp_called (args := #[.pointer (some ⟨gH, 0, none⟩)]) hD1 (by simp only [List.map_toArray, List.map_cons, List.map_nil]; rfl) (heads48_any (HA.out.ext B_78.out)) ?_)
    rintro e w_85 ⟨_, rfl, o_87, h_86⟩
    obtain ⟨A_88, c_89, rfl, _, p_90⟩ := PidsAt.of_own o_87 rfl
    have P_91 := Lib.hid p_90
    refine ⟨_, rfl, ext_trans B_78.out h_86, ?_⟩
    simp only [Act.put, List.setIfInBounds_toArray, List.set_cons_zero, List.set_cons_succ]
    have B_92 := Lib.hid (ext_trans B_78.out h_86)
    have F_93 := Lib.hid (F_79.out.ext h_86)
    have F_94 := Lib.hid (F_80.out.ext h_86)
    have F_95 := Lib.hid (F_81.out.ext h_86)
    have F_96 := Lib.hid (F_82.out.ext h_86)
    have F_97 := Lib.hid (F_83.out.ext h_86)
    have F_98 := Lib.hid (F_84.out.ext h_86)
    clear B_78 F_79 F_80 F_81 F_82 F_83 F_84
    clear o_87 h_86 p_90
    refine wpAnyH_all (rs := [27]) (by kernel_rfl) (by simp) ?_
    intro i hi
    simp only [List.mem_cons, List.not_mem_nil, or_false] at hi
    subst hi
    refine wpOp_of rfl rfl (wp_called (args := #[.agg (hang48V AX (patsH l).length cX)]) hD2 (by simp only [List.map_toArray, List.map_cons, List.map_nil]; rfl) (rheads48_any (HX.out.ext B_92.out) hln HD.out) ?_)
    rintro e w_99 ⟨_, rfl, o_101, h_100⟩
    obtain ⟨A_102, c_103, rfl, _, p_104⟩ := PidsAt.of_own o_101 rfl
    have P_105 := Lib.hid p_104
    refine ⟨_, rfl, ext_trans B_92.out h_100, ?_⟩
    simp only [Act.put, List.setIfInBounds_toArray, List.set_cons_zero, List.set_cons_succ]
    have B_106 := Lib.hid (ext_trans B_92.out h_100)
    have F_107 := Lib.hid (F_93.out.ext h_100)
    have F_108 := Lib.hid (F_94.out.ext h_100)
    have F_109 := Lib.hid (F_95.out.ext h_100)
    have F_110 := Lib.hid (F_96.out.ext h_100)
    have F_111 := Lib.hid (F_97.out.ext h_100)
    have F_112 := Lib.hid (F_98.out.ext h_100)
    have F_113 := Lib.hid (P_91.out.ext h_100)
    clear B_92 F_93 F_94 F_95 F_96 F_97 F_98 P_91
    clear o_101 h_100 p_104
    refine wpAnyH_all (rs := [28]) (by kernel_rfl) (by simp) ?_
    intro i hi
    simp only [List.mem_cons, List.not_mem_nil, or_false] at hi
    subst hi
    refine wpOp_of rfl rfl (wp_called (args := #[.slice A_88 (someD (namesH l) (headR (relH l) (namesH l).length)).length c_89, .slice A_102 (someD (namesH l) (headR (relH l) (namesH l).length)).length c_103]) hcS (by simp only [List.map_toArray, List.map_cons, List.map_nil]; rfl) ((rsameP _ _ w_99 _ _ _ _ _ _ F_113.out P_105.out LN4.out).mono fun _ _ => RetB.ofD) ?_)
    rintro e w_114 ⟨rfl, h_115⟩
    rw [decide_eq_true rfl]
    refine ⟨_, rfl, ext_trans B_106.out h_115, ?_⟩
    simp only [Act.put, List.setIfInBounds_toArray, List.set_cons_zero, List.set_cons_succ]
    have B_116 := Lib.hid (ext_trans B_106.out h_115)
    have F_117 := Lib.hid (F_107.out.ext h_115)
    have F_118 := Lib.hid (F_108.out.ext h_115)
    have F_119 := Lib.hid (F_109.out.ext h_115)
    have F_120 := Lib.hid (F_110.out.ext h_115)
    have F_121 := Lib.hid (F_111.out.ext h_115)
    have F_122 := Lib.hid (F_112.out.ext h_115)
    have F_123 := Lib.hid (F_113.out.ext h_115)
    have F_124 := Lib.hid (P_105.out.ext h_115)
    clear B_106 F_107 F_108 F_109 F_110 F_111 F_112 F_113 P_105
    clear h_115
    refine takeV (i := 29) (d := 44) (v := .bool true) rfl (by kernel_rfl) (by kernel_rfl) (by kernel_rfl) (fun _ _ _ h => h) rfl (fun _ _ => exPickT (v := .bool true) rfl rfl) B_116.out ?_
    simp only [Act.put, List.setIfInBounds_toArray, List.set_cons_zero, List.set_cons_succ]
    refine takeV (i := 30) (d := 45) (v := .bool true) rfl (by kernel_rfl) (by kernel_rfl) (by kernel_rfl) (fun _ _ _ h => h) rfl (fun _ _ => exMove (v := .bool true) rfl) B_116.out ?_
    simp only [Act.put, List.setIfInBounds_toArray, List.set_cons_zero, List.set_cons_succ]
    refine takeV (i := 31) (d := 46) (v := .pointer (some ⟨gH, 0, none⟩)) rfl (by kernel_rfl) (by kernel_rfl) (by kernel_rfl) (fun _ _ _ h => h) rfl (fun _ _ => exMove (v := .pointer (some ⟨gH, 0, none⟩)) rfl) B_116.out ?_
    simp only [Act.put, List.setIfInBounds_toArray, List.set_cons_zero, List.set_cons_succ]
    refine takeV (i := 32) (d := 47) (v := .agg (encP d).toArray) rfl (by kernel_rfl) (by kernel_rfl) (by kernel_rfl) (fun _ _ _ h => h) rfl (fun w' h => exMid rfl ((KP.out.ext h).range) underPid rfl infoPid) B_116.out ?_
    simp only [Act.put, List.setIfInBounds_toArray, List.set_cons_zero, List.set_cons_succ]
    refine takeV (i := 34) (d := 49) (v := .agg (hang48V AX (patsH l).length cX)) rfl (by kernel_rfl) (by kernel_rfl) (by kernel_rfl) (fun _ _ _ h => h) rfl (fun w' h => exMid rfl ((KX.out.ext h).range) underH8 rfl infoH8) B_116.out ?_
    simp only [Act.put, List.setIfInBounds_toArray, List.set_cons_zero, List.set_cons_succ]
    refine takeV (i := 35) (d := 50) (v := .agg (encP d).toArray) rfl (by kernel_rfl) (by kernel_rfl) (by kernel_rfl) (fun _ _ _ h => h) rfl (fun w' h => exMid rfl ((KP.out.ext h).range) underPid rfl infoPid) B_116.out ?_
    simp only [Act.put, List.setIfInBounds_toArray, List.set_cons_zero, List.set_cons_succ]
    refine wpAnyH_all (rs := [33]) (by kernel_rfl) (by simp) ?_
    intro i hi
    simp only [List.mem_cons, List.not_mem_nil, or_false] at hi
    subst hi
    refine wpOp_of rfl rfl (wp_called (args := #[.pointer (some ⟨gH, 0, none⟩), .agg (encP d).toArray]) hE1 (by simp only [List.map_toArray, List.map_cons, List.map_nil]; rfl) (without48_any (HA.out.ext B_116.out) d) ?_)
    rintro e w_125 ⟨_, rfl, o_127, h_126⟩
    obtain ⟨A_128, c_129, rfl, _, p_130⟩ := PidsAt.of_own o_127 rfl
    have P_131 := Lib.hid p_130
    refine ⟨_, rfl, ext_trans B_116.out h_126, ?_⟩
    simp only [Act.put, List.setIfInBounds_toArray, List.set_cons_zero, List.set_cons_succ]
    have B_132 := Lib.hid (ext_trans B_116.out h_126)
    have F_133 := Lib.hid (F_117.out.ext h_126)
    have F_134 := Lib.hid (F_118.out.ext h_126)
    have F_135 := Lib.hid (F_119.out.ext h_126)
    have F_136 := Lib.hid (F_120.out.ext h_126)
    have F_137 := Lib.hid (F_121.out.ext h_126)
    have F_138 := Lib.hid (F_122.out.ext h_126)
    have F_139 := Lib.hid (F_123.out.ext h_126)
    have F_140 := Lib.hid (F_124.out.ext h_126)
    clear B_116 F_117 F_118 F_119 F_120 F_121 F_122 F_123 F_124
    clear o_127 h_126 p_130
    refine wpAnyH_all (rs := [36]) (by kernel_rfl) (by simp) ?_
    intro i hi
    simp only [List.mem_cons, List.not_mem_nil, or_false] at hi
    subst hi
    refine wpOp_of rfl rfl (wp_called (args := #[.agg (hang48V AX (patsH l).length cX), .agg (encP d).toArray]) hE2 (by simp only [List.map_toArray, List.map_cons, List.map_nil]; rfl) (rwithout48_any (HX.out.ext B_132.out) hln HD.out d) ?_)
    rintro e w_141 ⟨_, rfl, o_143, h_142⟩
    obtain ⟨A_144, c_145, rfl, _, p_146⟩ := PidsAt.of_own o_143 rfl
    have P_147 := Lib.hid p_146
    refine ⟨_, rfl, ext_trans B_132.out h_142, ?_⟩
    simp only [Act.put, List.setIfInBounds_toArray, List.set_cons_zero, List.set_cons_succ]
    have B_148 := Lib.hid (ext_trans B_132.out h_142)
    have F_149 := Lib.hid (F_133.out.ext h_142)
    have F_150 := Lib.hid (F_134.out.ext h_142)
    have F_151 := Lib.hid (F_135.out.ext h_142)
    have F_152 := Lib.hid (F_136.out.ext h_142)
    have F_153 := Lib.hid (F_137.out.ext h_142)
    have F_154 := Lib.hid (F_138.out.ext h_142)
    have F_155 := Lib.hid (F_139.out.ext h_142)
    have F_156 := Lib.hid (F_140.out.ext h_142)
    have F_157 := Lib.hid (P_131.out.ext h_142)
    clear B_132 F_133 F_134 F_135 F_136 F_137 F_138 F_139 F_140 P_131
    clear o_143 h_142 p_146
    refine wpAnyH_all (rs := [37]) (by kernel_rfl) (by simp) ?_
    intro i hi
    simp only [List.mem_cons, List.not_mem_nil, or_false] at hi
    subst hi
    refine wpOp_of rfl rfl (wp_called (args := #[.slice A_128 (someD (namesH l) fun i => withoutR (relH l) (placeD (namesH l) d) i).length c_129, .slice A_144 (someD (namesH l) fun i => withoutR (relH l) (placeD (namesH l) d) i).length c_145]) hcS (by simp only [List.map_toArray, List.map_cons, List.map_nil]; rfl) ((rsameP _ _ w_141 _ _ _ _ _ _ F_157.out P_147.out LN5.out).mono fun _ _ => RetB.ofD) ?_)
    rintro e w_158 ⟨rfl, h_159⟩
    rw [decide_eq_true rfl]
    refine ⟨_, rfl, ext_trans B_148.out h_159, ?_⟩
    simp only [Act.put, List.setIfInBounds_toArray, List.set_cons_zero, List.set_cons_succ]
    have B_160 := Lib.hid (ext_trans B_148.out h_159)
    have F_161 := Lib.hid (F_149.out.ext h_159)
    have F_162 := Lib.hid (F_150.out.ext h_159)
    have F_163 := Lib.hid (F_151.out.ext h_159)
    have F_164 := Lib.hid (F_152.out.ext h_159)
    have F_165 := Lib.hid (F_153.out.ext h_159)
    have F_166 := Lib.hid (F_154.out.ext h_159)
    have F_167 := Lib.hid (F_155.out.ext h_159)
    have F_168 := Lib.hid (F_156.out.ext h_159)
    have F_169 := Lib.hid (F_157.out.ext h_159)
    have F_170 := Lib.hid (P_147.out.ext h_159)
    clear B_148 F_149 F_150 F_151 F_152 F_153 F_154 F_155 F_156 F_157 P_147
    clear h_159
    refine takeV (i := 38) (d := 53) (v := .bool true) rfl (by kernel_rfl) (by kernel_rfl) (by kernel_rfl) (fun _ _ _ h => h) rfl (fun _ _ => exPickT (v := .bool true) rfl rfl) B_160.out ?_
    simp only [Act.put, List.setIfInBounds_toArray, List.set_cons_zero, List.set_cons_succ]
    refine takeV (i := 39) (d := 54) (v := .bool true) rfl (by kernel_rfl) (by kernel_rfl) (by kernel_rfl) (fun _ _ _ h => h) rfl (fun _ _ => exMove (v := .bool true) rfl) B_160.out ?_
    simp only [Act.put, List.setIfInBounds_toArray, List.set_cons_zero, List.set_cons_succ]
    refine takeV (i := 40) (d := 55) (v := .pointer (some ⟨gH, 0, none⟩)) rfl (by kernel_rfl) (by kernel_rfl) (by kernel_rfl) (fun _ _ _ h => h) rfl (fun _ _ => exMove (v := .pointer (some ⟨gH, 0, none⟩)) rfl) B_160.out ?_
    simp only [Act.put, List.setIfInBounds_toArray, List.set_cons_zero, List.set_cons_succ]
    refine takeV (i := 42) (d := 57) (v := .agg (hang48V AX (patsH l).length cX)) rfl (by kernel_rfl) (by kernel_rfl) (by kernel_rfl) (fun _ _ _ h => h) rfl (fun w' h => exMid rfl ((KX.out.ext h).range) underH8 rfl infoH8) B_160.out ?_
    simp only [Act.put, List.setIfInBounds_toArray, List.set_cons_zero, List.set_cons_succ]
    refine wpAnyH_all (rs := [41]) (by kernel_rfl) (by simp) ?_
    intro i hi
    simp only [List.mem_cons, List.not_mem_nil, or_false] at hi
    subst hi
    refine wpOp_of rfl rfl (wp_called (args := #[.pointer (some ⟨gH, 0, none⟩)]) hF1 (by simp only [List.map_toArray, List.map_cons, List.map_nil]; rfl) (horder48_any (HA.out.ext B_160.out)) ?_)
    rintro e w_171 ⟨_, rfl, o_173, h_172⟩
    obtain ⟨A_174, c_175, rfl, _, p_176⟩ := PidsAt.of_own o_173 rfl
    have P_177 := Lib.hid p_176
    refine ⟨_, rfl, ext_trans B_160.out h_172, ?_⟩
    simp only [Act.put, List.setIfInBounds_toArray, List.set_cons_zero, List.set_cons_succ]
    have B_178 := Lib.hid (ext_trans B_160.out h_172)
    have F_179 := Lib.hid (F_161.out.ext h_172)
    have F_180 := Lib.hid (F_162.out.ext h_172)
    have F_181 := Lib.hid (F_163.out.ext h_172)
    have F_182 := Lib.hid (F_164.out.ext h_172)
    have F_183 := Lib.hid (F_165.out.ext h_172)
    have F_184 := Lib.hid (F_166.out.ext h_172)
    have F_185 := Lib.hid (F_167.out.ext h_172)
    have F_186 := Lib.hid (F_168.out.ext h_172)
    have F_187 := Lib.hid (F_169.out.ext h_172)
    have F_188 := Lib.hid (F_170.out.ext h_172)
    clear B_160 F_161 F_162 F_163 F_164 F_165 F_166 F_167 F_168 F_169 F_170
    clear o_173 h_172 p_176
    refine wpAnyH_all (rs := [43]) (by kernel_rfl) (by simp) ?_
    intro i hi
    simp only [List.mem_cons, List.not_mem_nil, or_false] at hi
    subst hi
    refine wpOp_of rfl rfl (wp_called (args := #[.agg (hang48V AX (patsH l).length cX)]) hF2 (by simp only [List.map_toArray, List.map_cons, List.map_nil]; rfl) (rorder48_any (HX.out.ext B_178.out) hln HD.out) ?_)
    rintro e w_189 ⟨_, rfl, o_191, h_190⟩
    obtain ⟨A_192, c_193, rfl, _, p_194⟩ := PidsAt.of_own o_191 rfl
    have P_195 := Lib.hid p_194
    refine ⟨_, rfl, ext_trans B_178.out h_190, ?_⟩
    simp only [Act.put, List.setIfInBounds_toArray, List.set_cons_zero, List.set_cons_succ]
    have B_196 := Lib.hid (ext_trans B_178.out h_190)
    have F_197 := Lib.hid (F_179.out.ext h_190)
    have F_198 := Lib.hid (F_180.out.ext h_190)
    have F_199 := Lib.hid (F_181.out.ext h_190)
    have F_200 := Lib.hid (F_182.out.ext h_190)
    have F_201 := Lib.hid (F_183.out.ext h_190)
    have F_202 := Lib.hid (F_184.out.ext h_190)
    have F_203 := Lib.hid (F_185.out.ext h_190)
    have F_204 := Lib.hid (F_186.out.ext h_190)
    have F_205 := Lib.hid (F_187.out.ext h_190)
    have F_206 := Lib.hid (F_188.out.ext h_190)
    have F_207 := Lib.hid (P_177.out.ext h_190)
    clear B_178 F_179 F_180 F_181 F_182 F_183 F_184 F_185 F_186 F_187 F_188 P_177
    clear o_191 h_190 p_194
    refine wpAnyH_all (rs := [44]) (by kernel_rfl) (by simp) ?_
    intro i hi
    simp only [List.mem_cons, List.not_mem_nil, or_false] at hi
    subst hi
    refine wpOp_of rfl rfl (wp_called (args := #[.slice A_174 (namesAt (namesH l) (ordR (relH l) (namesH l).length)).length c_175, .slice A_192 (namesAt (namesH l) (ordR (relH l) (namesH l).length)).length c_193]) hcS (by simp only [List.map_toArray, List.map_cons, List.map_nil]; rfl) ((rsameP _ _ w_189 _ _ _ _ _ _ F_207.out P_195.out LN6.out).mono fun _ _ => RetB.ofD) ?_)
    rintro e w_208 ⟨rfl, h_209⟩
    rw [decide_eq_true rfl]
    refine ⟨_, rfl, ext_trans B_196.out h_209, ?_⟩
    simp only [Act.put, List.setIfInBounds_toArray, List.set_cons_zero, List.set_cons_succ]
    have B_210 := Lib.hid (ext_trans B_196.out h_209)
    have F_211 := Lib.hid (F_197.out.ext h_209)
    have F_212 := Lib.hid (F_198.out.ext h_209)
    have F_213 := Lib.hid (F_199.out.ext h_209)
    have F_214 := Lib.hid (F_200.out.ext h_209)
    have F_215 := Lib.hid (F_201.out.ext h_209)
    have F_216 := Lib.hid (F_202.out.ext h_209)
    have F_217 := Lib.hid (F_203.out.ext h_209)
    have F_218 := Lib.hid (F_204.out.ext h_209)
    have F_219 := Lib.hid (F_205.out.ext h_209)
    have F_220 := Lib.hid (F_206.out.ext h_209)
    have F_221 := Lib.hid (F_207.out.ext h_209)
    have F_222 := Lib.hid (P_195.out.ext h_209)
    clear B_196 F_197 F_198 F_199 F_200 F_201 F_202 F_203 F_204 F_205 F_206 F_207 P_195
    clear h_209
    refine takeV (i := 45) (d := 60) (v := .bool true) rfl (by kernel_rfl) (by kernel_rfl) (by kernel_rfl) (fun _ _ _ h => h) rfl (fun _ _ => exPickT (v := .bool true) rfl rfl) B_210.out ?_
    simp only [Act.put, List.setIfInBounds_toArray, List.set_cons_zero, List.set_cons_succ]
    refine takeV (i := 46) (d := 61) (v := .bool true) rfl (by kernel_rfl) (by kernel_rfl) (by kernel_rfl) (fun _ _ _ h => h) rfl (fun _ _ => exMove (v := .bool true) rfl) B_210.out ?_
    simp only [Act.put, List.setIfInBounds_toArray, List.set_cons_zero, List.set_cons_succ]
    refine wpAnyH_all (rs := [47]) (by kernel_rfl) (by simp) ?_
    intro i hi
    simp only [List.mem_cons, List.not_mem_nil, or_false] at hi
    subst hi
    refine wpOp_of rfl rfl (wp_called (args := #[]) hcW (by simp) (works48 w_208) ?_)
    rintro e w_223 ⟨rfl, h_224⟩
    refine ⟨_, rfl, ext_trans B_210.out h_224, ?_⟩
    simp only [Act.put, List.setIfInBounds_toArray, List.set_cons_zero, List.set_cons_succ]
    have B_225 := Lib.hid (ext_trans B_210.out h_224)
    have F_226 := Lib.hid (F_211.out.ext h_224)
    have F_227 := Lib.hid (F_212.out.ext h_224)
    have F_228 := Lib.hid (F_213.out.ext h_224)
    have F_229 := Lib.hid (F_214.out.ext h_224)
    have F_230 := Lib.hid (F_215.out.ext h_224)
    have F_231 := Lib.hid (F_216.out.ext h_224)
    have F_232 := Lib.hid (F_217.out.ext h_224)
    have F_233 := Lib.hid (F_218.out.ext h_224)
    have F_234 := Lib.hid (F_219.out.ext h_224)
    have F_235 := Lib.hid (F_220.out.ext h_224)
    have F_236 := Lib.hid (F_221.out.ext h_224)
    have F_237 := Lib.hid (F_222.out.ext h_224)
    clear B_210 F_211 F_212 F_213 F_214 F_215 F_216 F_217 F_218 F_219 F_220 F_221 F_222
    clear h_224
    refine takeV (i := 48) (d := 63) (v := .bool true) rfl (by kernel_rfl) (by kernel_rfl) (by kernel_rfl) (fun _ _ _ h => h) rfl (fun _ _ => exPickT (v := .bool true) rfl rfl) B_225.out ?_
    simp only [Act.put, List.setIfInBounds_toArray, List.set_cons_zero, List.set_cons_succ]
    refine takeV (i := 49) (d := 4) (v := .bool true) rfl (by kernel_rfl) (by kernel_rfl) (by kernel_rfl) (fun _ _ _ h => h) rfl (fun _ _ => exAssign (v := .bool true) rfl) B_225.out ?_
    simp only [Act.put, List.setIfInBounds_toArray, List.set_cons_zero, List.set_cons_succ]
    refine wpAnyH_done (by kernel_rfl) ?_ _
    have BF := Lib.hid (BF.out.trans (B_225.out.mono BF.out.size))
    clear B_225 F_226 F_227 F_228 F_229 F_230 F_231 F_232 F_233 F_234 F_235 F_236 F_237
    go_wp2
    go_ret
    exact ⟨rfl, BF.out⟩
end Go.Proofs.Ytnhbbggpgieipaa
