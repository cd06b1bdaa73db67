/- Of nil there is nothing; it plays no part in which order patches are told: walked. -/
import Derived.Test.YtnhbbggpgieipaaHange
import Derived.Test.YtnhbbggpgieipaaIdxs
namespace Go.Proofs.Ytnhbbggpgieipaa
open Go.RowKit

theorem findP_nodup {l : List PatV} (h : (l.map (·.1)).Nodup) {p : PatV} (hp : p ∈ l) : findP l p.1 = some p := by
  cases hf : findP l p.1 with
  | none => exact absurd rfl (findP_none.1 hf p hp)
  | some q =>
    obtain ⟨h1, h2⟩ := findP_some hf
    obtain ⟨i, hi, rfl⟩ := List.getElem_of_mem hp
    obtain ⟨j, hj, rfl⟩ := List.getElem_of_mem h1
    have hp := List.pairwise_iff_getElem.1 h
    rcases Nat.lt_trichotomy i j with c | c | c
    · exact absurd (by rw [List.getElem_map, List.getElem_map]; exact h2.symm) (hp i j (by simpa using hi) (by simpa using hj) c)
    · subst c; rfl
    · exact absurd (by rw [List.getElem_map, List.getElem_map]; exact h2) (hp j i (by simpa using hj) (by simpa using hi) c)
theorem turn_perm (l : List PatV) (m : Nat) : (l.drop m ++ l.take m).Perm l := List.perm_append_comm.trans (by rw [List.take_append_drop])
theorem findP_perm {l l' : List PatV} (hp : l'.Perm l) (hn : (l.map (·.1)).Nodup) (d : PidV) : findP l' d = findP l d := by
  cases h : findP l d with
  | none => exact findP_none.2 fun p hp2 => findP_none.1 h p (hp.subset hp2)
  | some p =>
    obtain ⟨h1, h2⟩ := findP_some h
    rw [← h2]; exact findP_nodup ((hp.map _).nodup_iff.2 hn) (hp.symm.subset h1)
theorem namesH_perm {l l' : List PatV} (hp : l'.Perm l) : namesH l' = namesH l := setK_congr keyP_inj fun z => by simp [List.mem_map, hp.mem_iff]
theorem relH_turn {l l' : List PatV} (hp : l'.Perm l) (hn : (l.map (·.1)).Nodup) : relH l' = relH l := relH_perm (namesH_perm hp) (findP_perm hp hn)
theorem RowsP.turn {w : World} {rows : List (List Value)} {l : List PatV} (h : RowsP w rows l) (m : Nat) : RowsP w (rows.drop m ++ rows.take m) (l.drop m ++ l.take m) := by
  obtain ⟨h1, h2⟩ := h
  refine ⟨by simp [h1], fun k r p hr hp => ?_⟩
  rcases Nat.lt_or_ge k (rows.length - m) with hk | hk
  · rw [List.getElem?_append_left (by simpa using hk), List.getElem?_drop] at hr
    rw [List.getElem?_append_left (by rw [List.length_drop, ← h1]; exact hk), List.getElem?_drop] at hp
    exact h2 _ _ _ hr hp
  · rw [List.getElem?_append_right (by simpa using hk), List.length_drop] at hr
    rw [List.getElem?_append_right (by rw [List.length_drop, ← h1]; exact hk), List.length_drop, ← h1] at hp
    rw [List.getElem?_take] at hr hp
    split at hr
    · rename_i hlt
      rw [if_pos hlt] at hp
      exact h2 _ _ _ hr hp
    · cases hr
section
variable {w : World} {B n c k size : Nat} {A : Option Addr} {rows : List (List Value)}
theorem Sl.cutLowR (h : Sl w B size A n rows.flatten) (hn : rows.length = n) (hr : ∀ r ∈ rows, r.length = size) (hk : k ≤ n) (hc : n ≤ c) : Sl w B size (cutAddr A c k size) (n - k) (rows.drop k).flatten := by
  have hd : ∀ r ∈ rows.drop k, r.length = size := fun r h => hr r (List.mem_of_mem_drop h)
  have ht : ∀ r ∈ rows.take k, r.length = size := fun r h => hr r (List.mem_of_mem_take h)
  refine ⟨by rw [flatten_len _ hd, List.length_drop, hn], fun hp => ?_⟩
  obtain ⟨b, o, rfl, hb, hcell⟩ := h.2 (by omega)
  unfold cutAddr
  rw [if_neg (by omega)]
  refine ⟨b, o + k * size, by simp [Addr.add_mid], hb, fun j hj => ?_⟩
  have hjk : k * size + j < n * size := by
    have : (n - k) * size + k * size = n * size := by rw [← Nat.add_mul]; congr 1; omega
    omega
  rw [Nat.add_assoc, hcell _ hjk]
  have e0 : rows.flatten = (rows.take k).flatten ++ (rows.drop k).flatten := by rw [← List.flatten_append, List.take_append_drop]
  have hl : ((rows.take k).flatten).length = k * size := by rw [flatten_len _ ht, List.length_take, Nat.min_eq_left (by omega)]
  rw [e0, List.getElem?_append_right (by omega), hl, Nat.add_sub_cancel_left]
theorem Sl.cutHighR (h : Sl w B size A n rows.flatten) (hn : rows.length = n) (hr : ∀ r ∈ rows, r.length = size) (hk : k ≤ n) : Sl w B size (cutAddr A c 0 size) k (rows.take k).flatten := by
  have ht : ∀ r ∈ rows.take k, r.length = size := fun r h => hr r (List.mem_of_mem_take h)
  have hl : ((rows.take k).flatten).length = k * size := by rw [flatten_len _ ht, List.length_take, Nat.min_eq_left (by omega)]
  refine ⟨hl, fun hp => ?_⟩
  obtain ⟨b, o, rfl, hb, hcell⟩ := h.2 (by omega)
  refine ⟨b, o, ?_, hb, fun j hj => ?_⟩
  · unfold cutAddr
    split
    · rfl
    · simp [Addr.add_mid]
  · have hkn : k * size ≤ n * size := Nat.mul_le_mul_right _ hk
    have e0 : rows.flatten = (rows.take k).flatten ++ (rows.drop k).flatten := by rw [← List.flatten_append, List.take_append_drop]
    rw [hcell _ (by omega), e0, List.getElem?_append_left (by omega)]
end
theorem exSlice {P : Program} {ρ : Operand → Value} {w : World} {d : Option Tmp} {ty t : TypeId} {pos : String} {after : Array Edge} {gd : Option (Nat × Bool)} {x : Operand} {lo hi mx : Option Operand} {xv v : Value} {lv hv mv : Option Value} (hx : ρ x = xv) (hl : lo.map ρ = lv) (hh : hi.map ρ = hv) (hm : mx.map ρ = mv) (hr : (Instr.sliceAt t xv lv hv mv).run P w = .ok v w) : (execOp ρ ⟨d, .slice t x lo hi mx, ty, pos, after, gd⟩).run P w = .ok (.value v) w := by
  unfold execOp
  simp only [hx, hl, hh, hm, Sem.run_bind, hr, Result.andThen_ok, Sem.run_pure]
/-- rows of patches that turn leave it -/
theorem HangAt.keepK {w w' : World} {g : Nat} {D : List PidV} {R : Nat → Nat → Bool} {F : Nat → Prop} (h : HangAt w g D R) (hk : Kept F w w') (hF : ∀ k, F k → ∃ cur, w.heap[k]? = some (.cells cur 45 (0, 0))) : HangAt w' g D R := by
  obtain ⟨h1, h2, h0, A, c, gm, gr, h3, h4, h5, h6⟩ := h
  have nb : ∀ {k : Nat} {t : TypeId} {cs : Array Value}, Blk w k t cs → t ≠ 45 → ¬ F k := fun hb hne hf => by
    obtain ⟨cur, hc⟩ := hF _ hf
    unfold Blk at hb
    rw [hb] at hc
    injection hc with hc
    injection hc with _ ht _
    exact hne ht
  have nm : ∀ {t : TypeId} {k : Nat} {l : List (Value × Value)}, MapIs Try.prog t w k l → ¬ F k := fun hm hf => by
    obtain ⟨cur, hc⟩ := hF _ hf
    obtain ⟨es, clock, hb, _⟩ := hm
    rw [hb] at hc; cases hc
  have no : ∀ {base size n k : Nat} {e : TypeId} {v : Value} {xs : List Value}, w.ownsRow base e size v n xs → v.ownBlock = some k → e ≠ 45 → ¬ F k := fun ho hv hne hf => by
    obtain ⟨cur, hc⟩ := own_type ho hv
    obtain ⟨cur2, hc2⟩ := hF _ hf
    rw [hc] at hc2
    injection hc2 with hc2
    injection hc2 with _ ht _
    exact hne ht
  obtain ⟨k0, gm8, T, k1, k2, k3⟩ := h6
  exact ⟨h1, h2, h0, A, c, gm, gr, h3.keep (hk.block _ h3.lt (nb h3 (by decide))), own_keepF h4 (fun k e => hk.block k (h4.lt k e).2 (no h4 e (by decide))), h5.keep (hk.block _ h5.lt (nm h5)),
    k0, gm8, T, k1.keep (hk.block _ k1.lt (nb k1 (by decide))), ⟨k2.map.keep (hk.block _ k2.map.lt (nm k2.map)), fun r hr => (k2.row r hr).keep (hk.block _ (k2.row r hr).lt.1 (nb (k2.row r hr).blk (by decide))) (hk.block _ (k2.row r hr).lt.2 (no (k2.row r hr).own rfl (by decide))), k2.cl, k2.lt, k2.ap⟩, k3⟩
theorem rows_one {w : World} {rows : List (List Value)} {l : List PatV} (h : RowsP w rows l) : ∀ r ∈ rows, r.length = 4 ∧ ∀ u ∈ r, u.oneCell' = true := fun r hr => by
  obtain ⟨k, hk, rfl⟩ := List.getElem_of_mem hr
  have := h.2 k _ _ (List.getElem?_eq_getElem hk) (List.getElem?_eq_getElem (show k < l.length by rw [← h.1]; exact hk))
  exact ⟨this.len4, this.one⟩
theorem flat_one {rows : List (List Value)} (h : ∀ r ∈ rows, ∀ u ∈ r, u.oneCell' = true) : ∀ u ∈ rows.flatten, u.oneCell' = true := fun u hu => by
  obtain ⟨r, hr, h2⟩ := List.mem_flatten.1 hu
  exact h r hr u h2
theorem pid_flat : ∀ {cs : List Value}, FlatOk [.int .u8, .int .u16] cs → ∃ x : PidV, cs = encP x
  | [a, b], h => by
    obtain ⟨⟨x, rfl, hx⟩, ⟨y, rfl, hy⟩, _⟩ := h
    obtain ⟨x, rfl⟩ := fin8_of hx
    obtain ⟨y, rfl⟩ := fin16_of hy
    exact ⟨(x, y), rfl⟩
theorem own_sl {w : World} {base n c size : Nat} {e : TypeId} {A : Option Addr} {xs : List Value} (h : w.ownsRow base e size (.slice A n c) n xs) : Sl w w.heap.size size A n xs := by
  obtain ⟨A', c', e, _, hs⟩ := Sl.of_own h
  cases e; exact hs
theorem eqlP' {x y : PidV} (h : x = y) (u : World) : (binOp .eql 41 (.agg (encP x).toArray) (.agg (encP y).toArray)).run Try.prog u = .ok (.bool true) u := by rw [eqlP, decide_eq_true h]
theorem eqlP0 {x y : PidV} (h : ¬ x = y) (u : World) : (binOp .eql 41 (.agg (encP x).toArray) (.agg (encP y).toArray)).run Try.prog u = .ok (.bool false) u := by rw [eqlP, decide_eq_false h]
set_option maxRecDepth 100000 in
set_option maxHeartbeats 16000000 in
theorem hangNil_walk (w : World) (l : List PatV) (A : Option Addr) (n c : Nat) (hm : n ≤ maxLen) (hnc : n ≤ c) (h : PatsAt w A n l) (d : PidV) (fr : Int) (hfr : (Lit.int .u8 fr).wf = true) :
    Calls Try.prog 8 #[.slice A n c, .agg (encP d).toArray, .int .u8 fr] w (RetB w (.bool true)) := by
  obtain ⟨fr0, fr1⟩ := u8_of hfr
  obtain ⟨q, rfl⟩ := Int.eq_ofNat_of_zero_le fr0
  have H0 := Lib.hid h
  have KP : Hid (Blk (w.alloc (.cells (encP d).toArray 41)) w.heap.size 41 (encP d).toArray) := Blk.new _ _ _
  have B0 : Hid (Below w.heap.size w (w.alloc (.cells (encP d).toArray 41))) := below_new _ _
  clear h hfr
  go_enter Try.func8, Try.ntmps8
  go_upto_region 1 with fail
  generalize (w.alloc (.cells (encP d).toArray 41)) = w2 at *
  obtain ⟨gd, hgd⟩ : ∃ gd, gd = w.heap.size := ⟨_, rfl⟩
  rw [← hgd] at KP ⊢
  replace hgd := Lib.hid hgd
  have HF := Lib.hid (few20_any l w2 A n c 12 (H0.out.ext B0.out) hm)
  cases hf : fewsB l 12
  · rw [fewsN_false hf] at HF
    go_wp2_with fail
    refine HF.out.mono ?_
    rintro e w3 ⟨rfl, b3⟩
    have B3 := Lib.hid (B0.out.trans (b3.mono B0.out.size))
    clear b3 HF
    go_wp2_with fail
    refine (works48 _).mono ?_
    rintro e w4 ⟨rfl, b4⟩
    have B4 := Lib.hid (B3.out.trans (b4.mono B3.out.size))
    clear b4
    go_wp2
    go_ret
    exact ⟨rfl, B4.out⟩
  · rw [fewsN_true hf] at HF
    have HQ := Lib.hid (fews_at hf)
    have hn12 : n ≤ 12 := by have h1 := HQ.out.1; have h2 := H0.out.len; omega
    have HD : Hid (∀ p ∈ l, p.2.1.length ≤ 1000) := fun p hp => by
      unfold fewsB at hf
      rw [Bool.and_eq_true, List.all_eq_true] at hf
      have h1 := hf.2 p hp
      unfold fewOne fewP at h1
      simp only [Bool.and_eq_true, decide_eq_true_eq] at h1
      omega
    go_wp2_with fail
    refine HF.out.mono ?_
    rintro e w3 ⟨rfl, b3⟩
    have B3 := Lib.hid (B0.out.trans (b3.mono B0.out.size))
    have KP := Lib.hid (KP.out.ext b3)
    clear b3 HF hf B0
    have PT := Lib.hid (H0.out.ext B3.out)
    have hln := PT.out.len
    have BR := Lib.hid (Below.refl w3.heap.size w3)
    go_wp2_with fail
    go_loopw [7] (fun v wr => ∃ k : Nat, k ≤ n ∧ v = .int .i64 k ∧ Hid (((l.take k).map (·.1)).Nodup) ∧ Hid (Below w3.heap.size w3 wr)) (fun v _ => n - (intOf v).toNat)
    case atStart => exact ⟨0, by omega, rfl, List.nodup_nil, BR.out⟩
    case round =>
      clear BR
      obtain ⟨k, hk, rfl, ND, B⟩ := hrel
      have hk0 : (0 : Int) ≤ (k : Int) := by omega
      by_cases hlt : k < n
      · have hlk : (k : Int) < (n : Int) := by omega
        obtain ⟨b, o, x, r, rfl, hb, hx, pa, hr⟩ := PT.out.at_ hlt
        obtain ⟨⟨A1, c1, A2, c2, rfl, _, _⟩, _, _⟩ := pa
        have R1 := Lib.hid (pid_range hr)
        have hb := Lib.hid hb
        have HX := Lib.hid hx
        clear hr hx
        go_wp2_with fail
        go_loopw [8] (fun v wr => ∃ j : Nat, j ≤ k ∧ v = .int .i64 j ∧ Hid (x.1 ∉ (l.take j).map (·.1)) ∧ Hid (Below w3.heap.size w3 wr)) (fun v _ => k - (intOf v).toNat)
        case atStart => exact ⟨0, by omega, rfl, fun h => by simp at h, B.out⟩
        case round =>
          clear B
          obtain ⟨j, hj, rfl, NI, B⟩ := hrel
          have hj0 : (0 : Int) ≤ (j : Int) := by omega
          by_cases hjk : j < k
          · have hjk' : (j : Int) < (k : Int) := by omega
            have hjn : (j : Int) < (n : Int) := by omega
            obtain ⟨b', o', y, r', e1, _, hy, pa, hr'⟩ := PT.out.at_ (show j < n by omega)
            injection e1 with e1
            injection e1 with e1 e2 _
            subst e1 e2
            obtain ⟨⟨A3, c3, A4, c4, rfl, _, _⟩, _, _⟩ := pa
            have RA := Lib.hid (rangeAt_below R1.out B.out hb.out)
            have RB := Lib.hid (rangeAt_below (pid_range hr') B.out hb.out)
            have QA : Hid (∀ w', (∃ n, w' = wr.drewN n) → w'.rangeAt b (o + k * 4) (encP x.1)) := by rintro _ ⟨n, rfl⟩; exact RA.out
            have QB : Hid (∀ w', (∃ n, w' = wr.drewN n) → w'.rangeAt b (o + j * 4) (encP y.1)) := by rintro _ ⟨n, rfl⟩; exact RB.out
            clear hr' RA RB
            by_cases e : x.1 = y.1
            · have EQ := eqlP' e
              clear e hy NI
              go_wp2_with fail
              refine wp_region_quiet_lit (by kernel_rfl) (by kernel_rfl) ?_
              repeat (first | (refine wpQuiet_load_mid QA.out underPid rfl infoPid rfl rfl ?_; simp only [List.set_cons_succ, List.set_cons_zero]) | (refine wpQuiet_load_mid QB.out underPid rfl infoPid rfl rfl ?_; simp only [List.set_cons_succ, List.set_cons_zero]) | go_big_quiet_step (fail))
              refine wpQuiet_nil ?_
              rintro _ ⟨nq, rfl⟩
              have BW := Lib.hid (B3.out.trans ((B.out.trans (below_drewN (Below.refl _ _) nq |>.mono B.out.size)).mono B3.out.size))
              go_wp2_with fail
              refine (works48 _).mono ?_
              rintro e w4 ⟨rfl, b4⟩
              have B4 := Lib.hid (BW.out.trans (b4.mono BW.out.size))
              clear b4
              go_wp2
              go_ret
              exact ⟨rfl, B4.out⟩
            · have EQ := eqlP0 e
              have NI2 : Hid (x.1 ∉ (l.take (j + 1)).map (·.1)) := by
                rw [Hid, names_take hy, List.mem_append, List.mem_singleton]
                rintro (h | h)
                · exact NI.out h
                · exact e h
              clear e hy NI
              go_wp2_with fail
              refine wp_region_quiet_lit (by kernel_rfl) (by kernel_rfl) ?_
              repeat (first | (refine wpQuiet_load_mid QA.out underPid rfl infoPid rfl rfl ?_; simp only [List.set_cons_succ, List.set_cons_zero]) | (refine wpQuiet_load_mid QB.out underPid rfl infoPid rfl rfl ?_; simp only [List.set_cons_succ, List.set_cons_zero]) | go_big_quiet_step (fail))
              refine wpQuiet_nil ?_
              rintro _ ⟨nq, rfl⟩
              have B2 := Lib.hid (B.out.trans (below_drewN (Below.refl _ _) nq |>.mono B.out.size))
              clear B QA QB EQ
              generalize wr.drewN nq = w4 at *
              go_wp2_with fail
              go_roundw
              case rel => exact ⟨j + 1, by omega, by go_num, NI2.out, B2.out⟩
              case measure => simp [intOf]; omega
          · have hjk' : ¬ (j : Int) < (k : Int) := by omega
            obtain rfl : j = k := by omega
            have ND2 : Hid (((l.take (j + 1)).map (·.1)).Nodup) := by
              rw [Hid, names_take HX.out]
              exact List.nodup_append.2 ⟨ND.out, by simp, fun a ha b hb => by rw [List.mem_singleton] at hb; subst hb; rintro rfl; exact NI.out ha⟩
            go_wp2_with fail
            go_roundw
            case rel => exact ⟨j + 1, by omega, by go_num, ND2.out, B.out⟩
            case measure => simp [intOf]; omega
      · have hlk : ¬ (k : Int) < (n : Int) := by omega
        obtain rfl : n = k := by omega
        rw [List.take_of_length_le (by omega)] at ND
        have KP4 := Lib.hid (KP.out.ext B.out)
        have B4 := Lib.hid (B3.out.trans (B.out.mono B3.out.size))
        have PT4 := Lib.hid (PT.out.ext B.out)
        clear KP B PT B3
        generalize wr = w4 at *
        go_upto_region 12 with fail
        try go_frame
        refine wp_region_ext mixedS (by kernel_rfl) ?_
        repeat (first
          | (refine wpQuiet_load_row KP4.out underPid rfl infoPid rfl rfl ?_; simp only [List.set_cons_succ, List.set_cons_zero])
          | go_big_quiet_step ((first
            | (go_at_call 32; exact ext_call (all48_nil _))
            | (go_at_call 34; exact ext_call (above48_nil d _))
            | (go_at_call 36; exact ext_call (below48_nil d _))
            | (go_at_call 38; exact ext_call (heads48_nil _))
            | (go_at_call 40; exact ext_call (without48_nil d _))
            | (go_at_call 42; exact ext_call (order48_nil _)))))
        refine wpQuiet_nil ?_
        rintro _ ⟨z, rfl⟩
        have KP5 := Lib.hid (KP4.out.ext z.h)
        have B5 := Lib.hid (B4.out.trans (z.h.mono B4.out.size))
        have PT5 := Lib.hid (PT4.out.ext z.h)
        clear KP4 B4 PT4
        generalize z.w = w20 at *
        go_upto_region 15 with fail
        try go_frame
        obtain ⟨m, hmq, hmn⟩ : ∃ m : Nat, (m : Int) = (q : Int) % ((n : Int) + 1) ∧ m ≤ n := ⟨q % (n + 1), by simp, by have := Nat.mod_lt q (show 0 < n + 1 by omega); omega⟩
        rw [← hmq]
        clear hmq
        have CL := Lib.hid (fun u => run_slice_low patSl (A := A) (n := n) (c := c) hmn u)
        have CH := Lib.hid (fun u => run_slice_high patSl (A := A) (n := n) (c := c) (show m ≤ c by omega) u)
        obtain ⟨hl20, rows, hrows, hsl⟩ := PT5.out
        have hrl : rows.length = n := by rw [hrows.1]; exact hl20
        have RO := rows_one hrows
        have SL := Lib.hid (Sl.cutLowR (k := m) (c := c) hsl hrl (fun r hr => (RO r hr).1) hmn hnc)
        have SH := Lib.hid (Sl.cutHighR (k := m) (c := c) hsl hrl (fun r hr => (RO r hr).1) hmn)
        have O1 : Hid (∀ u ∈ (rows.drop m).flatten, u.oneCell' = true) := flat_one fun r hr => (RO r (List.mem_of_mem_drop hr)).2
        have O2 : Hid (∀ u ∈ (rows.take m).flatten, u.oneCell' = true) := flat_one fun r hr => (RO r (List.mem_of_mem_take hr)).2
        have TP := Lib.hid (turn_perm l m)
        have NE : Hid (namesH (l.drop m ++ l.take m) = namesH l) := namesH_perm TP.out
        have RE : Hid (relH (l.drop m ++ l.take m) = relH l) := relH_turn TP.out ND.out
        have TQ : Hid (∀ p ∈ l.drop m ++ l.take m, p.2.1.length ≤ 1000) := fun p hp => HD.out p (TP.out.subset hp)
        have TL : Hid ((l.drop m ++ l.take m).length = n - m + m) := by rw [Hid, TP.out.length_eq, hl20]; omega
        have RW := Lib.hid (hrows.turn m)
        clear hrows hsl RO
        have NL : (namesH l).length ≤ 12 := by have := namesH_len l; omega
        have LN1 : Hid ((namesH l).length ≤ maxLen) := by rw [Hid]; unfold maxLen; omega
        have LN2 : Hid ((namesAt (namesH l) (ordR (relH l) (namesH l).length)).length ≤ maxLen) := by
          have h1 := namesAt_len (namesH l) (ordR (relH l) (namesH l).length)
          have h2 := (ordR_told (relH_trans l)).2
          rw [Hid]; unfold maxLen; omega
        have LN3 : Hid ((someD (namesH l) fun i => hasR (relH l) i (placeD (namesH l) d)).length ≤ maxLen) := by
          have h1 := someK_len (namesH l) (fun i => hasR (relH l) i (placeD (namesH l) d)) (namesH l).length
          rw [Hid]; unfold maxLen someD; omega
        have LN4 : Hid ((someD (namesH l) (headR (relH l) (namesH l).length)).length ≤ maxLen) := by
          have h1 := someK_len (namesH l) (headR (relH l) (namesH l).length) (namesH l).length
          rw [Hid]; unfold maxLen someD; omega
        clear NL
        have hcO : ∀ args u, (callFunc 29 args).run Try.prog u = .ok (.enter 29 args) u := enters_of Try.func29 (by kernel_rfl) rfl
        have hcA : ∀ args u, (callFunc 32 args).run Try.prog u = .ok (.enter 32 args) u := enters_of Try.func32 (by kernel_rfl) rfl
        have hcR : ∀ args u, (callFunc 42 args).run Try.prog u = .ok (.enter 42 args) u := enters_of Try.func42 (by kernel_rfl) rfl
        have hcB : ∀ args u, (callFunc 34 args).run Try.prog u = .ok (.enter 34 args) u := enters_of Try.func34 (by kernel_rfl) rfl
        have hcH : ∀ args u, (callFunc 38 args).run Try.prog u = .ok (.enter 38 args) u := enters_of Try.func38 (by kernel_rfl) rfl
        have hcS : ∀ args u, (callFunc 31 args).run Try.prog u = .ok (.enter 31 args) u := enters_of Try.func31 (by kernel_rfl) rfl
        have hcW : ∀ args u, (callFunc 28 args).run Try.prog u = .ok (.enter 28 args) u := enters_of Try.func28 (by kernel_rfl) rfl
        refine wp_region_held (S := fun w' => Below w20.heap.size w20 w') mixedS ?_
        change wpAnyH _ _ _ _ _ _ _ _ w20.drew
        have B21 : Hid (Below w20.heap.size w20 w20.drew) := (Below.refl _ _).drew
        generalize w20.drew = w21 at B21 ⊢
        simp only [List.size_toArray, List.length_cons, List.length_nil]
        refine takeV (i := 0) (d := 73) (v := .slice A n c) rfl (by kernel_rfl) (by kernel_rfl) (by kernel_rfl) (fun _ _ _ h => h) rfl (fun _ _ => exMove (v := .slice A n c) rfl) B21.out ?_
        simp only [Act.put, List.setIfInBounds_toArray, List.set_cons_zero, List.set_cons_succ]
        refine takeV (i := 3) (d := 76) (v := .slice A n c) rfl (by kernel_rfl) (by kernel_rfl) (by kernel_rfl) (fun _ _ _ h => h) rfl (fun _ _ => exMove (v := .slice A n c) rfl) B21.out ?_
        simp only [Act.put, List.setIfInBounds_toArray, List.set_cons_zero, List.set_cons_succ]
        refine takeV (i := 4) (d := 77) (v := .int .i64 (m : Int)) rfl (by kernel_rfl) (by kernel_rfl) (by kernel_rfl) (fun _ _ _ h => h) rfl (fun _ _ => exMove (v := .int .i64 (m : Int)) rfl) B21.out ?_
        simp only [Act.put, List.setIfInBounds_toArray, List.set_cons_zero, List.set_cons_succ]
        refine takeV (i := 5) (d := 78) (v := .slice (cutAddr A c m 4) (n - m) (c - m)) rfl (by kernel_rfl) (by kernel_rfl) (by kernel_rfl) (fun _ _ _ h => h) rfl (fun w' _ => exSlice rfl rfl rfl rfl (CL.out w')) B21.out ?_
        simp only [Act.put, List.setIfInBounds_toArray, List.set_cons_zero, List.set_cons_succ]
        refine takeV (i := 7) (d := 80) (v := .slice A n c) rfl (by kernel_rfl) (by kernel_rfl) (by kernel_rfl) (fun _ _ _ h => h) rfl (fun _ _ => exMove (v := .slice A n c) rfl) B21.out ?_
        simp only [Act.put, List.setIfInBounds_toArray, List.set_cons_zero, List.set_cons_succ]
        refine takeV (i := 8) (d := 81) (v := .int .i64 (m : Int)) rfl (by kernel_rfl) (by kernel_rfl) (by kernel_rfl) (fun _ _ _ h => h) rfl (fun _ _ => exMove (v := .int .i64 (m : Int)) rfl) B21.out ?_
        simp only [Act.put, List.setIfInBounds_toArray, List.set_cons_zero, List.set_cons_succ]
        refine takeV (i := 9) (d := 82) (v := .slice (cutAddr A c 0 4) m c) rfl (by kernel_rfl) (by kernel_rfl) (by kernel_rfl) (fun _ _ _ h => h) rfl (fun w' _ => exSlice rfl rfl rfl rfl (CH.out w')) B21.out ?_
        simp only [Act.put, List.setIfInBounds_toArray, List.set_cons_zero, List.set_cons_succ]
        refine wpAnyH_all (rs := [1, 2]) (by kernel_rfl) (by simp) ?_
        intro i hi
        simp only [List.mem_cons, List.not_mem_nil, or_false] at hi
        rcases hi with rfl | rfl
        · refine wpOp_of rfl rfl (wp_called (args := #[.slice A n c]) hcO (by simp only [List.map_toArray, List.map_cons, List.map_nil]; rfl) (of48_any (PT5.out.ext B21.out) (by omega) HD.out) ?_)
          rintro e w_1 ⟨g_2, rfl, hA_4, h_3⟩
          have H_5 := Lib.hid hA_4
          refine ⟨_, rfl, ext_trans B21.out h_3, ?_⟩
          simp only [Act.put, List.setIfInBounds_toArray, List.set_cons_zero, List.set_cons_succ]
          have B_6 := Lib.hid (ext_trans B21.out h_3)
          clear B21
          clear h_3 hA_4
          refine wpAnyH_all (rs := [2]) (by kernel_rfl) (by simp) ?_
          intro i hi
          simp only [List.mem_cons, List.not_mem_nil, or_false] at hi
          subst hi
          have O_9 : Hid ((w_1.alloc (.cells #[] 45)).ownsRow w20.heap.size 45 4 (.slice (some ⟨w_1.heap.size, 0, none⟩) 0 0) 0 []) := ⟨rfl, .inr ⟨w_1.heap.size, 0, #[], rfl, B_6.out.size, heap_alloc_new w_1 _, Nat.le_refl _, by simp, rfl, rfl⟩⟩
          have h_10 : Below w_1.heap.size w_1 (w_1.alloc (.cells #[] 45)) := below_new _ _
          refine wpOp_of rfl rfl (wp_built0 patSl ?_)
          refine ⟨ext_trans B_6.out h_10, ?_⟩
          simp only [Act.put, List.setIfInBounds_toArray, List.set_cons_zero, List.set_cons_succ]
          generalize (w_1.alloc (.cells #[] 45)) = w_7 at *
          have B_11 := Lib.hid (ext_trans B_6.out h_10)
          have F_12 := Lib.hid (H_5.out.ext h_10)
          clear B_6 H_5
          clear h_10
          generalize w_1.heap.size = g_8 at *
          refine wpAnyH_all (rs := [6]) (by kernel_rfl) (by simp) ?_
          intro i hi
          simp only [List.mem_cons, List.not_mem_nil, or_false] at hi
          subst hi
          refine wpOp_of rfl rfl (wp_catF patSl O_9.out (SL.out.below B_11.out (Nat.le_refl _)) O1.out B_11.out.size (by omega) (by unfold maxLen; omega) rfl rfl ?_)
          intro v_14 w_13 o_15 k_16 hv_17
          rw [Nat.zero_add, List.nil_append] at o_15
          have B_18 : Hid (Below w20.heap.size w20 w_13) := B_11.out.trans (k_16.below (fun k e => (O_9.out.lt k e).1) B_11.out.size)
          have F_19 := Lib.hid (F_12.out.keepK k_16 fun k e => own_type O_9.out e)
          have O_20 := Lib.hid o_15
          obtain ⟨A_21, c_22, rfl, _, _⟩ := Sl.of_own o_15
          refine ⟨B_18.out, ?_⟩
          simp only [Act.put, List.setIfInBounds_toArray, List.set_cons_zero, List.set_cons_succ]
          clear o_15 k_16 hv_17 B_11 F_12 O_9
          refine wpAnyH_all (rs := [10]) (by kernel_rfl) (by simp) ?_
          intro i hi
          simp only [List.mem_cons, List.not_mem_nil, or_false] at hi
          subst hi
          refine wpOp_of rfl rfl (wp_catF patSl O_20.out (SH.out.below B_18.out (Nat.le_refl _)) O2.out B_18.out.size (by omega) (by unfold maxLen; omega) rfl rfl ?_)
          intro v_24 w_23 o_25 k_26 hv_27
          have B_28 : Hid (Below w20.heap.size w20 w_23) := B_18.out.trans (k_26.below (fun k e => (O_20.out.lt k e).1) B_18.out.size)
          have F_29 := Lib.hid (F_19.out.keepK k_26 fun k e => own_type O_20.out e)
          have O_30 := Lib.hid o_25
          obtain ⟨A_31, c_32, rfl, _, _⟩ := Sl.of_own o_25
          refine ⟨B_28.out, ?_⟩
          simp only [Act.put, List.setIfInBounds_toArray, List.set_cons_zero, List.set_cons_succ]
          clear o_25 k_26 hv_27 B_18 F_19 O_20
          refine wpAnyH_all (rs := [11]) (by kernel_rfl) (by simp) ?_
          intro i hi
          simp only [List.mem_cons, List.not_mem_nil, or_false] at hi
          subst hi
          refine wpOp_of rfl rfl (wp_called (args := #[.slice A_31 (n - m + m) c_32]) hcO (by simp only [List.map_toArray, List.map_cons, List.map_nil]; rfl) (of48_any (⟨TL.out, _, ⟨RW.out.1, fun k r p h1 h2 => (RW.out.2 k r p h1 h2).ext B_28.out⟩, by rw [List.flatten_append]; exact (own_sl O_30.out)⟩) (by omega) TQ.out) ?_)
          rintro e w_33 ⟨g_34, rfl, hA_36, h_35⟩
          rw [NE.out, RE.out] at hA_36
          have H_37 := Lib.hid hA_36
          refine ⟨_, rfl, ext_trans B_28.out h_35, ?_⟩
          simp only [Act.put, List.setIfInBounds_toArray, List.set_cons_zero, List.set_cons_succ]
          have B_38 := Lib.hid (ext_trans B_28.out h_35)
          have F_39 := Lib.hid (F_29.out.ext h_35)
          have F_40 := Lib.hid (own_ext O_30.out h_35)
          clear B_28 F_29 O_30
          clear h_35 hA_36
          refine takeV (i := 12) (d := 11) (v := .pointer (some ⟨g_2, 0, none⟩)) rfl (by kernel_rfl) (by kernel_rfl) (by kernel_rfl) (fun _ _ _ h => h) rfl (fun _ _ => exAssign (v := .pointer (some ⟨g_2, 0, none⟩)) rfl) B_38.out ?_
          simp only [Act.put, List.setIfInBounds_toArray, List.set_cons_zero, List.set_cons_succ]
          refine takeV (i := 13) (d := 12) (v := .pointer (some ⟨g_34, 0, none⟩)) rfl (by kernel_rfl) (by kernel_rfl) (by kernel_rfl) (fun _ _ _ h => h) rfl (fun _ _ => exAssign (v := .pointer (some ⟨g_34, 0, none⟩)) rfl) B_38.out ?_
          simp only [Act.put, List.setIfInBounds_toArray, List.set_cons_zero, List.set_cons_succ]
          refine wpAnyH_done (by kernel_rfl) ?_ _
          have KP6 := Lib.hid (KP5.out.ext B_38.out)
          have B6 := Lib.hid (B5.out.trans (B_38.out.mono B5.out.size))
          clear B_38 F_40
          go_upto_region 16 with fail
          try go_frame
          refine wp_region_held (S := fun w' => Below w_33.heap.size w_33 w') mixedS ?_
          change wpAnyH _ _ _ _ _ _ _ _ w_33.drew
          have B31 : Hid (Below w_33.heap.size w_33 w_33.drew) := (Below.refl _ _).drew
          generalize w_33.drew = w31 at B31 ⊢
          simp only [List.size_toArray, List.length_cons, List.length_nil]
          refine takeV (i := 0) (d := 85) (v := .pointer (some ⟨g_2, 0, none⟩)) rfl (by kernel_rfl) (by kernel_rfl) (by kernel_rfl) (fun _ _ _ h => h) rfl (fun _ _ => exMove (v := .pointer (some ⟨g_2, 0, none⟩)) rfl) B31.out ?_
          simp only [Act.put, List.setIfInBounds_toArray, List.set_cons_zero, List.set_cons_succ]
          refine takeV (i := 2) (d := 87) (v := .pointer (some ⟨g_34, 0, none⟩)) rfl (by kernel_rfl) (by kernel_rfl) (by kernel_rfl) (fun _ _ _ h => h) rfl (fun _ _ => exMove (v := .pointer (some ⟨g_34, 0, none⟩)) rfl) B31.out ?_
          simp only [Act.put, List.setIfInBounds_toArray, List.set_cons_zero, List.set_cons_succ]
          refine wpAnyH_all (rs := [1]) (by kernel_rfl) (by simp) ?_
          intro i hi
          simp only [List.mem_cons, List.not_mem_nil, or_false] at hi
          subst hi
          refine wpOp_of rfl rfl (wp_called (args := #[.pointer (some ⟨g_2, 0, none⟩)]) hcA (by simp only [List.map_toArray, List.map_cons, List.map_nil]; rfl) (all48_any (F_39.out.ext B31.out)) ?_)
          rintro e w_101 ⟨_, rfl, o_103, h_102⟩
          obtain ⟨A_104, c_105, rfl, _, p_106⟩ := PidsAt.of_own o_103 rfl
          have P_107 := Lib.hid p_106
          refine ⟨_, rfl, ext_trans B31.out h_102, ?_⟩
          simp only [Act.put, List.setIfInBounds_toArray, List.set_cons_zero, List.set_cons_succ]
          have B_108 := Lib.hid (ext_trans B31.out h_102)
          clear B31
          clear o_103 h_102 p_106
          refine wpAnyH_all (rs := [3]) (by kernel_rfl) (by simp) ?_
          intro i hi
          simp only [List.mem_cons, List.not_mem_nil, or_false] at hi
          subst hi
          refine wpOp_of rfl rfl (wp_called (args := #[.pointer (some ⟨g_34, 0, none⟩)]) hcA (by simp only [List.map_toArray, List.map_cons, List.map_nil]; rfl) (all48_any (H_37.out.ext B_108.out)) ?_)
          rintro e w_109 ⟨_, rfl, o_111, h_110⟩
          obtain ⟨A_112, c_113, rfl, _, p_114⟩ := PidsAt.of_own o_111 rfl
          have P_115 := Lib.hid p_114
          refine ⟨_, rfl, ext_trans B_108.out h_110, ?_⟩
          simp only [Act.put, List.setIfInBounds_toArray, List.set_cons_zero, List.set_cons_succ]
          have B_116 := Lib.hid (ext_trans B_108.out h_110)
          have F_117 := Lib.hid (P_107.out.ext h_110)
          clear B_108 P_107
          clear o_111 h_110 p_114
          refine wpAnyH_all (rs := [4]) (by kernel_rfl) (by simp) ?_
          intro i hi
          simp only [List.mem_cons, List.not_mem_nil, or_false] at hi
          subst hi
          refine wpOp_of rfl rfl (wp_called (args := #[.slice A_104 (namesH l).length c_105, .slice A_112 (namesH l).length c_113]) hcS (by simp only [List.map_toArray, List.map_cons, List.map_nil]; rfl) ((rsameP _ _ w_109 _ _ _ _ _ _ F_117.out P_115.out LN1.out).mono fun _ _ => RetB.ofD) ?_)
          rintro e w_118 ⟨rfl, h_119⟩
          rw [decide_eq_true rfl]
          refine ⟨_, rfl, ext_trans B_116.out h_119, ?_⟩
          simp only [Act.put, List.setIfInBounds_toArray, List.set_cons_zero, List.set_cons_succ]
          have B_120 := Lib.hid (ext_trans B_116.out h_119)
          have F_121 := Lib.hid (F_117.out.ext h_119)
          have F_122 := Lib.hid (P_115.out.ext h_119)
          clear B_116 F_117 P_115
          clear h_119
          refine takeV (i := 5) (d := 90) (v := .bool true) rfl (by kernel_rfl) (by kernel_rfl) (by kernel_rfl) (fun _ _ _ h => h) rfl (fun _ _ => exMove (v := .bool true) rfl) B_120.out ?_
          simp only [Act.put, List.setIfInBounds_toArray, List.set_cons_zero, List.set_cons_succ]
          refine takeV (i := 6) (d := 91) (v := .pointer (some ⟨g_2, 0, none⟩)) rfl (by kernel_rfl) (by kernel_rfl) (by kernel_rfl) (fun _ _ _ h => h) rfl (fun _ _ => exMove (v := .pointer (some ⟨g_2, 0, none⟩)) rfl) B_120.out ?_
          simp only [Act.put, List.setIfInBounds_toArray, List.set_cons_zero, List.set_cons_succ]
          refine takeV (i := 8) (d := 93) (v := .pointer (some ⟨g_34, 0, none⟩)) rfl (by kernel_rfl) (by kernel_rfl) (by kernel_rfl) (fun _ _ _ h => h) rfl (fun _ _ => exMove (v := .pointer (some ⟨g_34, 0, none⟩)) rfl) B_120.out ?_
          simp only [Act.put, List.setIfInBounds_toArray, List.set_cons_zero, List.set_cons_succ]
          refine wpAnyH_all (rs := [7]) (by kernel_rfl) (by simp) ?_
          intro i hi
          simp only [List.mem_cons, List.not_mem_nil, or_false] at hi
          subst hi
          refine wpOp_of rfl rfl (wp_called (args := #[.pointer (some ⟨g_2, 0, none⟩)]) hcR (by simp only [List.map_toArray, List.map_cons, List.map_nil]; rfl) (horder48_any (F_39.out.ext B_120.out)) ?_)
          rintro e w_123 ⟨_, rfl, o_125, h_124⟩
          obtain ⟨A_126, c_127, rfl, _, p_128⟩ := PidsAt.of_own o_125 rfl
          have P_129 := Lib.hid p_128
          refine ⟨_, rfl, ext_trans B_120.out h_124, ?_⟩
          simp only [Act.put, List.setIfInBounds_toArray, List.set_cons_zero, List.set_cons_succ]
          have B_130 := Lib.hid (ext_trans B_120.out h_124)
          have F_131 := Lib.hid (F_121.out.ext h_124)
          have F_132 := Lib.hid (F_122.out.ext h_124)
          clear B_120 F_121 F_122
          clear o_125 h_124 p_128
          refine wpAnyH_all (rs := [9]) (by kernel_rfl) (by simp) ?_
          intro i hi
          simp only [List.mem_cons, List.not_mem_nil, or_false] at hi
          subst hi
          refine wpOp_of rfl rfl (wp_called (args := #[.pointer (some ⟨g_34, 0, none⟩)]) hcR (by simp only [List.map_toArray, List.map_cons, List.map_nil]; rfl) (horder48_any (H_37.out.ext B_130.out)) ?_)
          rintro e w_133 ⟨_, rfl, o_135, h_134⟩
          obtain ⟨A_136, c_137, rfl, _, p_138⟩ := PidsAt.of_own o_135 rfl
          have P_139 := Lib.hid p_138
          refine ⟨_, rfl, ext_trans B_130.out h_134, ?_⟩
          simp only [Act.put, List.setIfInBounds_toArray, List.set_cons_zero, List.set_cons_succ]
          have B_140 := Lib.hid (ext_trans B_130.out h_134)
          have F_141 := Lib.hid (F_131.out.ext h_134)
          have F_142 := Lib.hid (F_132.out.ext h_134)
          have F_143 := Lib.hid (P_129.out.ext h_134)
          clear B_130 F_131 F_132 P_129
          clear o_135 h_134 p_138
          refine wpAnyH_all (rs := [10]) (by kernel_rfl) (by simp) ?_
          intro i hi
          simp only [List.mem_cons, List.not_mem_nil, or_false] at hi
          subst hi
          refine wpOp_of rfl rfl (wp_called (args := #[.slice A_126 (namesAt (namesH l) (ordR (relH l) (namesH l).length)).length c_127, .slice A_136 (namesAt (namesH l) (ordR (relH l) (namesH l).length)).length c_137]) hcS (by simp only [List.map_toArray, List.map_cons, List.map_nil]; rfl) ((rsameP _ _ w_133 _ _ _ _ _ _ F_143.out P_139.out LN2.out).mono fun _ _ => RetB.ofD) ?_)
          rintro e w_144 ⟨rfl, h_145⟩
          rw [decide_eq_true rfl]
          refine ⟨_, rfl, ext_trans B_140.out h_145, ?_⟩
          simp only [Act.put, List.setIfInBounds_toArray, List.set_cons_zero, List.set_cons_succ]
          have B_146 := Lib.hid (ext_trans B_140.out h_145)
          have F_147 := Lib.hid (F_141.out.ext h_145)
          have F_148 := Lib.hid (F_142.out.ext h_145)
          have F_149 := Lib.hid (F_143.out.ext h_145)
          have F_150 := Lib.hid (P_139.out.ext h_145)
          clear B_140 F_141 F_142 F_143 P_139
          clear h_145
          refine takeV (i := 11) (d := 96) (v := .bool true) rfl (by kernel_rfl) (by kernel_rfl) (by kernel_rfl) (fun _ _ _ h => h) rfl (fun _ _ => exPickT (v := .bool true) rfl rfl) B_146.out ?_
          simp only [Act.put, List.setIfInBounds_toArray, List.set_cons_zero, List.set_cons_succ]
          refine takeV (i := 12) (d := 97) (v := .bool true) rfl (by kernel_rfl) (by kernel_rfl) (by kernel_rfl) (fun _ _ _ h => h) rfl (fun _ _ => exMove (v := .bool true) rfl) B_146.out ?_
          simp only [Act.put, List.setIfInBounds_toArray, List.set_cons_zero, List.set_cons_succ]
          refine takeV (i := 13) (d := 98) (v := .pointer (some ⟨g_2, 0, none⟩)) rfl (by kernel_rfl) (by kernel_rfl) (by kernel_rfl) (fun _ _ _ h => h) rfl (fun _ _ => exMove (v := .pointer (some ⟨g_2, 0, none⟩)) rfl) B_146.out ?_
          simp only [Act.put, List.setIfInBounds_toArray, List.set_cons_zero, List.set_cons_succ]
          refine takeV (i := 14) (d := 99) (v := .agg (encP d).toArray) rfl (by kernel_rfl) (by kernel_rfl) (by kernel_rfl) (fun _ _ _ h => h) rfl (fun w' h => exMid rfl ((KP6.out.ext h).range) underPid rfl infoPid) B_146.out ?_
          simp only [Act.put, List.setIfInBounds_toArray, List.set_cons_zero, List.set_cons_succ]
          refine takeV (i := 16) (d := 101) (v := .pointer (some ⟨g_34, 0, none⟩)) rfl (by kernel_rfl) (by kernel_rfl) (by kernel_rfl) (fun _ _ _ h => h) rfl (fun _ _ => exMove (v := .pointer (some ⟨g_34, 0, none⟩)) rfl) B_146.out ?_
          simp only [Act.put, List.setIfInBounds_toArray, List.set_cons_zero, List.set_cons_succ]
          refine takeV (i := 17) (d := 102) (v := .agg (encP d).toArray) rfl (by kernel_rfl) (by kernel_rfl) (by kernel_rfl) (fun _ _ _ h => h) rfl (fun w' h => exMid rfl ((KP6.out.ext h).range) underPid rfl infoPid) B_146.out ?_
          simp only [Act.put, List.setIfInBounds_toArray, List.set_cons_zero, List.set_cons_succ]
          refine wpAnyH_all (rs := [15]) (by kernel_rfl) (by simp) ?_
          intro i hi
          simp only [List.mem_cons, List.not_mem_nil, or_false] at hi
          subst hi
          refine wpOp_of rfl rfl (wp_called (args := #[.pointer (some ⟨g_2, 0, none⟩), .agg (encP d).toArray]) hcB (by simp only [List.map_toArray, List.map_cons, List.map_nil]; rfl) (above48_any (F_39.out.ext B_146.out) d) ?_)
          rintro e w_151 ⟨_, rfl, o_153, h_152⟩
          obtain ⟨A_154, c_155, rfl, _, p_156⟩ := PidsAt.of_own o_153 rfl
          have P_157 := Lib.hid p_156
          refine ⟨_, rfl, ext_trans B_146.out h_152, ?_⟩
          simp only [Act.put, List.setIfInBounds_toArray, List.set_cons_zero, List.set_cons_succ]
          have B_158 := Lib.hid (ext_trans B_146.out h_152)
          have F_159 := Lib.hid (F_147.out.ext h_152)
          have F_160 := Lib.hid (F_148.out.ext h_152)
          have F_161 := Lib.hid (F_149.out.ext h_152)
          have F_162 := Lib.hid (F_150.out.ext h_152)
          clear B_146 F_147 F_148 F_149 F_150
          clear o_153 h_152 p_156
          refine wpAnyH_all (rs := [18]) (by kernel_rfl) (by simp) ?_
          intro i hi
          simp only [List.mem_cons, List.not_mem_nil, or_false] at hi
          subst hi
          refine wpOp_of rfl rfl (wp_called (args := #[.pointer (some ⟨g_34, 0, none⟩), .agg (encP d).toArray]) hcB (by simp only [List.map_toArray, List.map_cons, List.map_nil]; rfl) (above48_any (H_37.out.ext B_158.out) d) ?_)
          rintro e w_163 ⟨_, rfl, o_165, h_164⟩
          obtain ⟨A_166, c_167, rfl, _, p_168⟩ := PidsAt.of_own o_165 rfl
          have P_169 := Lib.hid p_168
          refine ⟨_, rfl, ext_trans B_158.out h_164, ?_⟩
          simp only [Act.put, List.setIfInBounds_toArray, List.set_cons_zero, List.set_cons_succ]
          have B_170 := Lib.hid (ext_trans B_158.out h_164)
          have F_171 := Lib.hid (F_159.out.ext h_164)
          have F_172 := Lib.hid (F_160.out.ext h_164)
          have F_173 := Lib.hid (F_161.out.ext h_164)
          have F_174 := Lib.hid (F_162.out.ext h_164)
          have F_175 := Lib.hid (P_157.out.ext h_164)
          clear B_158 F_159 F_160 F_161 F_162 P_157
          clear o_165 h_164 p_168
          refine wpAnyH_all (rs := [19]) (by kernel_rfl) (by simp) ?_
          intro i hi
          simp only [List.mem_cons, List.not_mem_nil, or_false] at hi
          subst hi
          refine wpOp_of rfl rfl (wp_called (args := #[.slice A_154 (someD (namesH l) fun i => hasR (relH l) i (placeD (namesH l) d)).length c_155, .slice A_166 (someD (namesH l) fun i => hasR (relH l) i (placeD (namesH l) d)).length c_167]) hcS (by simp only [List.map_toArray, List.map_cons, List.map_nil]; rfl) ((rsameP _ _ w_163 _ _ _ _ _ _ F_175.out P_169.out LN3.out).mono fun _ _ => RetB.ofD) ?_)
          rintro e w_176 ⟨rfl, h_177⟩
          rw [decide_eq_true rfl]
          refine ⟨_, rfl, ext_trans B_170.out h_177, ?_⟩
          simp only [Act.put, List.setIfInBounds_toArray, List.set_cons_zero, List.set_cons_succ]
          have B_178 := Lib.hid (ext_trans B_170.out h_177)
          have F_179 := Lib.hid (F_171.out.ext h_177)
          have F_180 := Lib.hid (F_172.out.ext h_177)
          have F_181 := Lib.hid (F_173.out.ext h_177)
          have F_182 := Lib.hid (F_174.out.ext h_177)
          have F_183 := Lib.hid (F_175.out.ext h_177)
          have F_184 := Lib.hid (P_169.out.ext h_177)
          clear B_170 F_171 F_172 F_173 F_174 F_175 P_169
          clear h_177
          refine takeV (i := 20) (d := 105) (v := .bool true) rfl (by kernel_rfl) (by kernel_rfl) (by kernel_rfl) (fun _ _ _ h => h) rfl (fun _ _ => exPickT (v := .bool true) rfl rfl) B_178.out ?_
          simp only [Act.put, List.setIfInBounds_toArray, List.set_cons_zero, List.set_cons_succ]
          refine takeV (i := 21) (d := 106) (v := .bool true) rfl (by kernel_rfl) (by kernel_rfl) (by kernel_rfl) (fun _ _ _ h => h) rfl (fun _ _ => exMove (v := .bool true) rfl) B_178.out ?_
          simp only [Act.put, List.setIfInBounds_toArray, List.set_cons_zero, List.set_cons_succ]
          refine takeV (i := 22) (d := 107) (v := .pointer (some ⟨g_2, 0, none⟩)) rfl (by kernel_rfl) (by kernel_rfl) (by kernel_rfl) (fun _ _ _ h => h) rfl (fun _ _ => exMove (v := .pointer (some ⟨g_2, 0, none⟩)) rfl) B_178.out ?_
          simp only [Act.put, List.setIfInBounds_toArray, List.set_cons_zero, List.set_cons_succ]
          refine takeV (i := 24) (d := 109) (v := .pointer (some ⟨g_34, 0, none⟩)) rfl (by kernel_rfl) (by kernel_rfl) (by kernel_rfl) (fun _ _ _ h => h) rfl (fun _ _ => exMove (v := .pointer (some ⟨g_34, 0, none⟩)) rfl) B_178.out ?_
          simp only [Act.put, List.setIfInBounds_toArray, List.set_cons_zero, List.set_cons_succ]
          refine wpAnyH_all (rs := [23]) (by kernel_rfl) (by simp) ?_
          intro i hi
          simp only [List.mem_cons, List.not_mem_nil, or_false] at hi
          subst hi
          refine wpOp_of rfl rfl (wp_called (args := #[.pointer (some ⟨g_2, 0, none⟩)]) hcH (by simp only [List.map_toArray, List.map_cons, List.map_nil]; rfl) (heads48_any (F_39.out.ext B_178.out)) ?_)
          rintro e w_185 ⟨_, rfl, o_187, h_186⟩
          obtain ⟨A_188, c_189, rfl, _, p_190⟩ := PidsAt.of_own o_187 rfl
          have P_191 := Lib.hid p_190
          refine ⟨_, rfl, ext_trans B_178.out h_186, ?_⟩
          simp only [Act.put, List.setIfInBounds_toArray, List.set_cons_zero, List.set_cons_succ]
          have B_192 := Lib.hid (ext_trans B_178.out h_186)
          have F_193 := Lib.hid (F_179.out.ext h_186)
          have F_194 := Lib.hid (F_180.out.ext h_186)
          have F_195 := Lib.hid (F_181.out.ext h_186)
          have F_196 := Lib.hid (F_182.out.ext h_186)
          have F_197 := Lib.hid (F_183.out.ext h_186)
          have F_198 := Lib.hid (F_184.out.ext h_186)
          clear B_178 F_179 F_180 F_181 F_182 F_183 F_184
          clear o_187 h_186 p_190
          refine wpAnyH_all (rs := [25]) (by kernel_rfl) (by simp) ?_
          intro i hi
          simp only [List.mem_cons, List.not_mem_nil, or_false] at hi
          subst hi
          refine wpOp_of rfl rfl (wp_called (args := #[.pointer (some ⟨g_34, 0, none⟩)]) hcH (by simp only [List.map_toArray, List.map_cons, List.map_nil]; rfl) (heads48_any (H_37.out.ext B_192.out)) ?_)
          rintro e w_199 ⟨_, rfl, o_201, h_200⟩
          obtain ⟨A_202, c_203, rfl, _, p_204⟩ := PidsAt.of_own o_201 rfl
          have P_205 := Lib.hid p_204
          refine ⟨_, rfl, ext_trans B_192.out h_200, ?_⟩
          simp only [Act.put, List.setIfInBounds_toArray, List.set_cons_zero, List.set_cons_succ]
          have B_206 := Lib.hid (ext_trans B_192.out h_200)
          have F_207 := Lib.hid (F_193.out.ext h_200)
          have F_208 := Lib.hid (F_194.out.ext h_200)
          have F_209 := Lib.hid (F_195.out.ext h_200)
          have F_210 := Lib.hid (F_196.out.ext h_200)
          have F_211 := Lib.hid (F_197.out.ext h_200)
          have F_212 := Lib.hid (F_198.out.ext h_200)
          have F_213 := Lib.hid (P_191.out.ext h_200)
          clear B_192 F_193 F_194 F_195 F_196 F_197 F_198 P_191
          clear o_201 h_200 p_204
          refine wpAnyH_all (rs := [26]) (by kernel_rfl) (by simp) ?_
          intro i hi
          simp only [List.mem_cons, List.not_mem_nil, or_false] at hi
          subst hi
          refine wpOp_of rfl rfl (wp_called (args := #[.slice A_188 (someD (namesH l) (headR (relH l) (namesH l).length)).length c_189, .slice A_202 (someD (namesH l) (headR (relH l) (namesH l).length)).length c_203]) hcS (by simp only [List.map_toArray, List.map_cons, List.map_nil]; rfl) ((rsameP _ _ w_199 _ _ _ _ _ _ F_213.out P_205.out LN4.out).mono fun _ _ => RetB.ofD) ?_)
          rintro e w_214 ⟨rfl, h_215⟩
          rw [decide_eq_true rfl]
          refine ⟨_, rfl, ext_trans B_206.out h_215, ?_⟩
          simp only [Act.put, List.setIfInBounds_toArray, List.set_cons_zero, List.set_cons_succ]
          have B_216 := Lib.hid (ext_trans B_206.out h_215)
          have F_217 := Lib.hid (F_207.out.ext h_215)
          have F_218 := Lib.hid (F_208.out.ext h_215)
          have F_219 := Lib.hid (F_209.out.ext h_215)
          have F_220 := Lib.hid (F_210.out.ext h_215)
          have F_221 := Lib.hid (F_211.out.ext h_215)
          have F_222 := Lib.hid (F_212.out.ext h_215)
          have F_223 := Lib.hid (F_213.out.ext h_215)
          have F_224 := Lib.hid (P_205.out.ext h_215)
          clear B_206 F_207 F_208 F_209 F_210 F_211 F_212 F_213 P_205
          clear h_215
          refine takeV (i := 27) (d := 112) (v := .bool true) rfl (by kernel_rfl) (by kernel_rfl) (by kernel_rfl) (fun _ _ _ h => h) rfl (fun _ _ => exPickT (v := .bool true) rfl rfl) B_216.out ?_
          simp only [Act.put, List.setIfInBounds_toArray, List.set_cons_zero, List.set_cons_succ]
          refine takeV (i := 28) (d := 113) (v := .bool true) rfl (by kernel_rfl) (by kernel_rfl) (by kernel_rfl) (fun _ _ _ h => h) rfl (fun _ _ => exMove (v := .bool true) rfl) B_216.out ?_
          simp only [Act.put, List.setIfInBounds_toArray, List.set_cons_zero, List.set_cons_succ]
          refine wpAnyH_all (rs := [29]) (by kernel_rfl) (by simp) ?_
          intro i hi
          simp only [List.mem_cons, List.not_mem_nil, or_false] at hi
          subst hi
          refine wpOp_of rfl rfl (wp_called (args := #[]) hcW (by simp) (works48 w_214) ?_)
          rintro e w_225 ⟨rfl, h_226⟩
          refine ⟨_, rfl, ext_trans B_216.out h_226, ?_⟩
          simp only [Act.put, List.setIfInBounds_toArray, List.set_cons_zero, List.set_cons_succ]
          have B_227 := Lib.hid (ext_trans B_216.out h_226)
          have F_228 := Lib.hid (F_217.out.ext h_226)
          have F_229 := Lib.hid (F_218.out.ext h_226)
          have F_230 := Lib.hid (F_219.out.ext h_226)
          have F_231 := Lib.hid (F_220.out.ext h_226)
          have F_232 := Lib.hid (F_221.out.ext h_226)
          have F_233 := Lib.hid (F_222.out.ext h_226)
          have F_234 := Lib.hid (F_223.out.ext h_226)
          have F_235 := Lib.hid (F_224.out.ext h_226)
          clear B_216 F_217 F_218 F_219 F_220 F_221 F_222 F_223 F_224
          clear h_226
          refine takeV (i := 30) (d := 115) (v := .bool true) rfl (by kernel_rfl) (by kernel_rfl) (by kernel_rfl) (fun _ _ _ h => h) rfl (fun _ _ => exPickT (v := .bool true) rfl rfl) B_227.out ?_
          simp only [Act.put, List.setIfInBounds_toArray, List.set_cons_zero, List.set_cons_succ]
          refine takeV (i := 31) (d := 6) (v := .bool true) rfl (by kernel_rfl) (by kernel_rfl) (by kernel_rfl) (fun _ _ _ h => h) rfl (fun _ _ => exAssign (v := .bool true) rfl) B_227.out ?_
          simp only [Act.put, List.setIfInBounds_toArray, List.set_cons_zero, List.set_cons_succ]
          refine wpAnyH_done (by kernel_rfl) ?_ _
          have BF := Lib.hid (B6.out.trans (B_227.out.mono B6.out.size))
          clear B_227 F_228 F_229 F_230 F_231 F_232 F_233 F_234 F_235
          go_wp2
          go_ret
          exact ⟨rfl, BF.out⟩
        · have O_43 : Hid ((w21.alloc (.cells #[] 45)).ownsRow w20.heap.size 45 4 (.slice (some ⟨w21.heap.size, 0, none⟩) 0 0) 0 []) := ⟨rfl, .inr ⟨w21.heap.size, 0, #[], rfl, B21.out.size, heap_alloc_new w21 _, Nat.le_refl _, by simp, rfl, rfl⟩⟩
          have h_44 : Below w21.heap.size w21 (w21.alloc (.cells #[] 45)) := below_new _ _
          refine wpOp_of rfl rfl (wp_built0 patSl ?_)
          refine ⟨ext_trans B21.out h_44, ?_⟩
          simp only [Act.put, List.setIfInBounds_toArray, List.set_cons_zero, List.set_cons_succ]
          generalize (w21.alloc (.cells #[] 45)) = w_41 at *
          have B_45 := Lib.hid (ext_trans B21.out h_44)
          clear B21
          clear h_44
          generalize w21.heap.size = g_42 at *
          refine wpAnyH_all (rs := [1]) (by kernel_rfl) (by simp) ?_
          intro i hi
          simp only [List.mem_cons, List.not_mem_nil, or_false] at hi
          subst hi
          refine wpOp_of rfl rfl (wp_called (args := #[.slice A n c]) hcO (by simp only [List.map_toArray, List.map_cons, List.map_nil]; rfl) (of48_any (PT5.out.ext B_45.out) (by omega) HD.out) ?_)
          rintro e w_46 ⟨g_47, rfl, hA_49, h_48⟩
          have H_50 := Lib.hid hA_49
          refine ⟨_, rfl, ext_trans B_45.out h_48, ?_⟩
          simp only [Act.put, List.setIfInBounds_toArray, List.set_cons_zero, List.set_cons_succ]
          have B_51 := Lib.hid (ext_trans B_45.out h_48)
          have F_52 := Lib.hid (own_ext O_43.out h_48)
          clear B_45 O_43
          clear h_48 hA_49
          refine wpAnyH_all (rs := [6]) (by kernel_rfl) (by simp) ?_
          intro i hi
          simp only [List.mem_cons, List.not_mem_nil, or_false] at hi
          subst hi
          refine wpOp_of rfl rfl (wp_catF patSl F_52.out (SL.out.below B_51.out (Nat.le_refl _)) O1.out B_51.out.size (by omega) (by unfold maxLen; omega) rfl rfl ?_)
          intro v_54 w_53 o_55 k_56 hv_57
          rw [Nat.zero_add, List.nil_append] at o_55
          have B_58 : Hid (Below w20.heap.size w20 w_53) := B_51.out.trans (k_56.below (fun k e => (F_52.out.lt k e).1) B_51.out.size)
          have F_59 := Lib.hid (H_50.out.keepK k_56 fun k e => own_type F_52.out e)
          have O_60 := Lib.hid o_55
          obtain ⟨A_61, c_62, rfl, _, _⟩ := Sl.of_own o_55
          refine ⟨B_58.out, ?_⟩
          simp only [Act.put, List.setIfInBounds_toArray, List.set_cons_zero, List.set_cons_succ]
          clear o_55 k_56 hv_57 B_51 F_52 H_50
          refine wpAnyH_all (rs := [10]) (by kernel_rfl) (by simp) ?_
          intro i hi
          simp only [List.mem_cons, List.not_mem_nil, or_false] at hi
          subst hi
          refine wpOp_of rfl rfl (wp_catF patSl O_60.out (SH.out.below B_58.out (Nat.le_refl _)) O2.out B_58.out.size (by omega) (by unfold maxLen; omega) rfl rfl ?_)
          intro v_64 w_63 o_65 k_66 hv_67
          have B_68 : Hid (Below w20.heap.size w20 w_63) := B_58.out.trans (k_66.below (fun k e => (O_60.out.lt k e).1) B_58.out.size)
          have F_69 := Lib.hid (F_59.out.keepK k_66 fun k e => own_type O_60.out e)
          have O_70 := Lib.hid o_65
          obtain ⟨A_71, c_72, rfl, _, _⟩ := Sl.of_own o_65
          refine ⟨B_68.out, ?_⟩
          simp only [Act.put, List.setIfInBounds_toArray, List.set_cons_zero, List.set_cons_succ]
          clear o_65 k_66 hv_67 B_58 F_59 O_60
          refine wpAnyH_all (rs := [11]) (by kernel_rfl) (by simp) ?_
          intro i hi
          simp only [List.mem_cons, List.not_mem_nil, or_false] at hi
          subst hi
          refine wpOp_of rfl rfl (wp_called (args := #[.slice A_71 (n - m + m) c_72]) hcO (by simp only [List.map_toArray, List.map_cons, List.map_nil]; rfl) (of48_any (⟨TL.out, _, ⟨RW.out.1, fun k r p h1 h2 => (RW.out.2 k r p h1 h2).ext B_68.out⟩, by rw [List.flatten_append]; exact (own_sl O_70.out)⟩) (by omega) TQ.out) ?_)
          rintro e w_73 ⟨g_74, rfl, hA_76, h_75⟩
          rw [NE.out, RE.out] at hA_76
          have H_77 := Lib.hid hA_76
          refine ⟨_, rfl, ext_trans B_68.out h_75, ?_⟩
          simp only [Act.put, List.setIfInBounds_toArray, List.set_cons_zero, List.set_cons_succ]
          have B_78 := Lib.hid (ext_trans B_68.out h_75)
          have F_79 := Lib.hid (F_69.out.ext h_75)
          have F_80 := Lib.hid (own_ext O_70.out h_75)
          clear B_68 F_69 O_70
          clear h_75 hA_76
          refine takeV (i := 12) (d := 11) (v := .pointer (some ⟨g_47, 0, none⟩)) rfl (by kernel_rfl) (by kernel_rfl) (by kernel_rfl) (fun _ _ _ h => h) rfl (fun _ _ => exAssign (v := .pointer (some ⟨g_47, 0, none⟩)) rfl) B_78.out ?_
          simp only [Act.put, List.setIfInBounds_toArray, List.set_cons_zero, List.set_cons_succ]
          refine takeV (i := 13) (d := 12) (v := .pointer (some ⟨g_74, 0, none⟩)) rfl (by kernel_rfl) (by kernel_rfl) (by kernel_rfl) (fun _ _ _ h => h) rfl (fun _ _ => exAssign (v := .pointer (some ⟨g_74, 0, none⟩)) rfl) B_78.out ?_
          simp only [Act.put, List.setIfInBounds_toArray, List.set_cons_zero, List.set_cons_succ]
          refine wpAnyH_done (by kernel_rfl) ?_ _
          have KP6 := Lib.hid (KP5.out.ext B_78.out)
          have B6 := Lib.hid (B5.out.trans (B_78.out.mono B5.out.size))
          clear B_78 F_80
          go_upto_region 16 with fail
          try go_frame
          refine wp_region_held (S := fun w' => Below w_73.heap.size w_73 w') mixedS ?_
          change wpAnyH _ _ _ _ _ _ _ _ w_73.drew
          have B31 : Hid (Below w_73.heap.size w_73 w_73.drew) := (Below.refl _ _).drew
          generalize w_73.drew = w31 at B31 ⊢
          simp only [List.size_toArray, List.length_cons, List.length_nil]
          refine takeV (i := 0) (d := 85) (v := .pointer (some ⟨g_47, 0, none⟩)) rfl (by kernel_rfl) (by kernel_rfl) (by kernel_rfl) (fun _ _ _ h => h) rfl (fun _ _ => exMove (v := .pointer (some ⟨g_47, 0, none⟩)) rfl) B31.out ?_
          simp only [Act.put, List.setIfInBounds_toArray, List.set_cons_zero, List.set_cons_succ]
          refine takeV (i := 2) (d := 87) (v := .pointer (some ⟨g_74, 0, none⟩)) rfl (by kernel_rfl) (by kernel_rfl) (by kernel_rfl) (fun _ _ _ h => h) rfl (fun _ _ => exMove (v := .pointer (some ⟨g_74, 0, none⟩)) rfl) B31.out ?_
          simp only [Act.put, List.setIfInBounds_toArray, List.set_cons_zero, List.set_cons_succ]
          refine wpAnyH_all (rs := [1]) (by kernel_rfl) (by simp) ?_
          intro i hi
          simp only [List.mem_cons, List.not_mem_nil, or_false] at hi
          subst hi
          refine wpOp_of rfl rfl (wp_called (args := #[.pointer (some ⟨g_47, 0, none⟩)]) hcA (by simp only [List.map_toArray, List.map_cons, List.map_nil]; rfl) (all48_any (F_79.out.ext B31.out)) ?_)
          rintro e w_101 ⟨_, rfl, o_103, h_102⟩
          obtain ⟨A_104, c_105, rfl, _, p_106⟩ := PidsAt.of_own o_103 rfl
          have P_107 := Lib.hid p_106
          refine ⟨_, rfl, ext_trans B31.out h_102, ?_⟩
          simp only [Act.put, List.setIfInBounds_toArray, List.set_cons_zero, List.set_cons_succ]
          have B_108 := Lib.hid (ext_trans B31.out h_102)
          clear B31
          clear o_103 h_102 p_106
          refine wpAnyH_all (rs := [3]) (by kernel_rfl) (by simp) ?_
          intro i hi
          simp only [List.mem_cons, List.not_mem_nil, or_false] at hi
          subst hi
          refine wpOp_of rfl rfl (wp_called (args := #[.pointer (some ⟨g_74, 0, none⟩)]) hcA (by simp only [List.map_toArray, List.map_cons, List.map_nil]; rfl) (all48_any (H_77.out.ext B_108.out)) ?_)
          rintro e w_109 ⟨_, rfl, o_111, h_110⟩
          obtain ⟨A_112, c_113, rfl, _, p_114⟩ := PidsAt.of_own o_111 rfl
          have P_115 := Lib.hid p_114
          refine ⟨_, rfl, ext_trans B_108.out h_110, ?_⟩
          simp only [Act.put, List.setIfInBounds_toArray, List.set_cons_zero, List.set_cons_succ]
          have B_116 := Lib.hid (ext_trans B_108.out h_110)
          have F_117 := Lib.hid (P_107.out.ext h_110)
          clear B_108 P_107
          clear o_111 h_110 p_114
          refine wpAnyH_all (rs := [4]) (by kernel_rfl) (by simp) ?_
          intro i hi
          simp only [List.mem_cons, List.not_mem_nil, or_false] at hi
          subst hi
          refine wpOp_of rfl rfl (wp_called (args := #[.slice A_104 (namesH l).length c_105, .slice A_112 (namesH l).length c_113]) hcS (by simp only [List.map_toArray, List.map_cons, List.map_nil]; rfl) ((rsameP _ _ w_109 _ _ _ _ _ _ F_117.out P_115.out LN1.out).mono fun _ _ => RetB.ofD) ?_)
          rintro e w_118 ⟨rfl, h_119⟩
          rw [decide_eq_true rfl]
          refine ⟨_, rfl, ext_trans B_116.out h_119, ?_⟩
          simp only [Act.put, List.setIfInBounds_toArray, List.set_cons_zero, List.set_cons_succ]
          have B_120 := Lib.hid (ext_trans B_116.out h_119)
          have F_121 := Lib.hid (F_117.out.ext h_119)
          have F_122 := Lib.hid (P_115.out.ext h_119)
          clear B_116 F_117 P_115
          clear h_119
          refine takeV (i := 5) (d := 90) (v := .bool true) rfl (by kernel_rfl) (by kernel_rfl) (by kernel_rfl) (fun _ _ _ h => h) rfl (fun _ _ => exMove (v := .bool true) rfl) B_120.out ?_
          simp only [Act.put, List.setIfInBounds_toArray, List.set_cons_zero, List.set_cons_succ]
          refine takeV (i := 6) (d := 91) (v := .pointer (some ⟨g_47, 0, none⟩)) rfl (by kernel_rfl) (by kernel_rfl) (by kernel_rfl) (fun _ _ _ h => h) rfl (fun _ _ => exMove (v := .pointer (some ⟨g_47, 0, none⟩)) rfl) B_120.out ?_
          simp only [Act.put, List.setIfInBounds_toArray, List.set_cons_zero, List.set_cons_succ]
          refine takeV (i := 8) (d := 93) (v := .pointer (some ⟨g_74, 0, none⟩)) rfl (by kernel_rfl) (by kernel_rfl) (by kernel_rfl) (fun _ _ _ h => h) rfl (fun _ _ => exMove (v := .pointer (some ⟨g_74, 0, none⟩)) rfl) B_120.out ?_
          simp only [Act.put, List.setIfInBounds_toArray, List.set_cons_zero, List.set_cons_succ]
          refine wpAnyH_all (rs := [7]) (by kernel_rfl) (by simp) ?_
          intro i hi
          simp only [List.mem_cons, List.not_mem_nil, or_false] at hi
          subst hi
          refine wpOp_of rfl rfl (wp_called (args := #[.pointer (some ⟨g_47, 0, none⟩)]) hcR (by simp only [List.map_toArray, List.map_cons, List.map_nil]; rfl) (horder48_any (F_79.out.ext B_120.out)) ?_)
          rintro e w_123 ⟨_, rfl, o_125, h_124⟩
          obtain ⟨A_126, c_127, rfl, _, p_128⟩ := PidsAt.of_own o_125 rfl
          have P_129 := Lib.hid p_128
          refine ⟨_, rfl, ext_trans B_120.out h_124, ?_⟩
          simp only [Act.put, List.setIfInBounds_toArray, List.set_cons_zero, List.set_cons_succ]
          have B_130 := Lib.hid (ext_trans B_120.out h_124)
          have F_131 := Lib.hid (F_121.out.ext h_124)
          have F_132 := Lib.hid (F_122.out.ext h_124)
          clear B_120 F_121 F_122
          clear o_125 h_124 p_128
          refine wpAnyH_all (rs := [9]) (by kernel_rfl) (by simp) ?_
          intro i hi
          simp only [List.mem_cons, List.not_mem_nil, or_false] at hi
          subst hi
          refine wpOp_of rfl rfl (wp_called (args := #[.pointer (some ⟨g_74, 0, none⟩)]) hcR (by simp only [List.map_toArray, List.map_cons, List.map_nil]; rfl) (horder48_any (H_77.out.ext B_130.out)) ?_)
          rintro e w_133 ⟨_, rfl, o_135, h_134⟩
          obtain ⟨A_136, c_137, rfl, _, p_138⟩ := PidsAt.of_own o_135 rfl
          have P_139 := Lib.hid p_138
          refine ⟨_, rfl, ext_trans B_130.out h_134, ?_⟩
          simp only [Act.put, List.setIfInBounds_toArray, List.set_cons_zero, List.set_cons_succ]
          have B_140 := Lib.hid (ext_trans B_130.out h_134)
          have F_141 := Lib.hid (F_131.out.ext h_134)
          have F_142 := Lib.hid (F_132.out.ext h_134)
          have F_143 := Lib.hid (P_129.out.ext h_134)
          clear B_130 F_131 F_132 P_129
          clear o_135 h_134 p_138
          refine wpAnyH_all (rs := [10]) (by kernel_rfl) (by simp) ?_
          intro i hi
          simp only [List.mem_cons, List.not_mem_nil, or_false] at hi
          subst hi
          refine wpOp_of rfl rfl (wp_called (args := #[.slice A_126 (namesAt (namesH l) (ordR (relH l) (namesH l).length)).length c_127, .slice A_136 (namesAt (namesH l) (ordR (relH l) (namesH l).length)).length c_137]) hcS (by simp only [List.map_toArray, List.map_cons, List.map_nil]; rfl) ((rsameP _ _ w_133 _ _ _ _ _ _ F_143.out P_139.out LN2.out).mono fun _ _ => RetB.ofD) ?_)
          rintro e w_144 ⟨rfl, h_145⟩
          rw [decide_eq_true rfl]
          refine ⟨_, rfl, ext_trans B_140.out h_145, ?_⟩
          simp only [Act.put, List.setIfInBounds_toArray, List.set_cons_zero, List.set_cons_succ]
          have B_146 := Lib.hid (ext_trans B_140.out h_145)
          have F_147 := Lib.hid (F_141.out.ext h_145)
          have F_148 := Lib.hid (F_142.out.ext h_145)
          have F_149 := Lib.hid (F_143.out.ext h_145)
          have F_150 := Lib.hid (P_139.out.ext h_145)
          clear B_140 F_141 F_142 F_143 P_139
          clear h_145
          refine takeV (i := 11) (d := 96) (v := .bool true) rfl (by kernel_rfl) (by kernel_rfl) (by kernel_rfl) (fun _ _ _ h => h) rfl (fun _ _ => exPickT (v := .bool true) rfl rfl) B_146.out ?_
          simp only [Act.put, List.setIfInBounds_toArray, List.set_cons_zero, List.set_cons_succ]
          refine takeV (i := 12) (d := 97) (v := .bool true) rfl (by kernel_rfl) (by kernel_rfl) (by kernel_rfl) (fun _ _ _ h => h) rfl (fun _ _ => exMove (v := .bool true) rfl) B_146.out ?_
          simp only [Act.put, List.setIfInBounds_toArray, List.set_cons_zero, List.set_cons_succ]
          refine takeV (i := 13) (d := 98) (v := .pointer (some ⟨g_47, 0, none⟩)) rfl (by kernel_rfl) (by kernel_rfl) (by kernel_rfl) (fun _ _ _ h => h) rfl (fun _ _ => exMove (v := .pointer (some ⟨g_47, 0, none⟩)) rfl) B_146.out ?_
          simp only [Act.put, List.setIfInBounds_toArray, List.set_cons_zero, List.set_cons_succ]
          refine takeV (i := 14) (d := 99) (v := .agg (encP d).toArray) rfl (by kernel_rfl) (by kernel_rfl) (by kernel_rfl) (fun _ _ _ h => h) rfl (fun w' h => exMid rfl ((KP6.out.ext h).range) underPid rfl infoPid) B_146.out ?_
          simp only [Act.put, List.setIfInBounds_toArray, List.set_cons_zero, List.set_cons_succ]
          refine takeV (i := 16) (d := 101) (v := .pointer (some ⟨g_74, 0, none⟩)) rfl (by kernel_rfl) (by kernel_rfl) (by kernel_rfl) (fun _ _ _ h => h) rfl (fun _ _ => exMove (v := .pointer (some ⟨g_74, 0, none⟩)) rfl) B_146.out ?_
          simp only [Act.put, List.setIfInBounds_toArray, List.set_cons_zero, List.set_cons_succ]
          refine takeV (i := 17) (d := 102) (v := .agg (encP d).toArray) rfl (by kernel_rfl) (by kernel_rfl) (by kernel_rfl) (fun _ _ _ h => h) rfl (fun w' h => exMid rfl ((KP6.out.ext h).range) underPid rfl infoPid) B_146.out ?_
          simp only [Act.put, List.setIfInBounds_toArray, List.set_cons_zero, List.set_cons_succ]
          refine wpAnyH_all (rs := [15]) (by kernel_rfl) (by simp) ?_
          intro i hi
          simp only [List.mem_cons, List.not_mem_nil, or_false] at hi
          subst hi
          refine wpOp_of rfl rfl (wp_called (args := #[.pointer (some ⟨g_47, 0, none⟩), .agg (encP d).toArray]) hcB (by simp only [List.map_toArray, List.map_cons, List.map_nil]; rfl) (above48_any (F_79.out.ext B_146.out) d) ?_)
          rintro e w_151 ⟨_, rfl, o_153, h_152⟩
          obtain ⟨A_154, c_155, rfl, _, p_156⟩ := PidsAt.of_own o_153 rfl
          have P_157 := Lib.hid p_156
          refine ⟨_, rfl, ext_trans B_146.out h_152, ?_⟩
          simp only [Act.put, List.setIfInBounds_toArray, List.set_cons_zero, List.set_cons_succ]
          have B_158 := Lib.hid (ext_trans B_146.out h_152)
          have F_159 := Lib.hid (F_147.out.ext h_152)
          have F_160 := Lib.hid (F_148.out.ext h_152)
          have F_161 := Lib.hid (F_149.out.ext h_152)
          have F_162 := Lib.hid (F_150.out.ext h_152)
          clear B_146 F_147 F_148 F_149 F_150
          clear o_153 h_152 p_156
          refine wpAnyH_all (rs := [18]) (by kernel_rfl) (by simp) ?_
          intro i hi
          simp only [List.mem_cons, List.not_mem_nil, or_false] at hi
          subst hi
          refine wpOp_of rfl rfl (wp_called (args := #[.pointer (some ⟨g_74, 0, none⟩), .agg (encP d).toArray]) hcB (by simp only [List.map_toArray, List.map_cons, List.map_nil]; rfl) (above48_any (H_77.out.ext B_158.out) d) ?_)
          rintro e w_163 ⟨_, rfl, o_165, h_164⟩
          obtain ⟨A_166, c_167, rfl, _, p_168⟩ := PidsAt.of_own o_165 rfl
          have P_169 := Lib.hid p_168
          refine ⟨_, rfl, ext_trans B_158.out h_164, ?_⟩
          simp only [Act.put, List.setIfInBounds_toArray, List.set_cons_zero, List.set_cons_succ]
          have B_170 := Lib.hid (ext_trans B_158.out h_164)
          have F_171 := Lib.hid (F_159.out.ext h_164)
          have F_172 := Lib.hid (F_160.out.ext h_164)
          have F_173 := Lib.hid (F_161.out.ext h_164)
          have F_174 := Lib.hid (F_162.out.ext h_164)
          have F_175 := Lib.hid (P_157.out.ext h_164)
          clear B_158 F_159 F_160 F_161 F_162 P_157
          clear o_165 h_164 p_168
          refine wpAnyH_all (rs := [19]) (by kernel_rfl) (by simp) ?_
          intro i hi
          simp only [List.mem_cons, List.not_mem_nil, or_false] at hi
          subst hi
          refine wpOp_of rfl rfl (wp_called (args := #[.slice A_154 (someD (namesH l) fun i => hasR (relH l) i (placeD (namesH l) d)).length c_155, .slice A_166 (someD (namesH l) fun i => hasR (relH l) i (placeD (namesH l) d)).length c_167]) hcS (by simp only [List.map_toArray, List.map_cons, List.map_nil]; rfl) ((rsameP _ _ w_163 _ _ _ _ _ _ F_175.out P_169.out LN3.out).mono fun _ _ => RetB.ofD) ?_)
          rintro e w_176 ⟨rfl, h_177⟩
          rw [decide_eq_true rfl]
          refine ⟨_, rfl, ext_trans B_170.out h_177, ?_⟩
          simp only [Act.put, List.setIfInBounds_toArray, List.set_cons_zero, List.set_cons_succ]
          have B_178 := Lib.hid (ext_trans B_170.out h_177)
          have F_179 := Lib.hid (F_171.out.ext h_177)
          have F_180 := Lib.hid (F_172.out.ext h_177)
          have F_181 := Lib.hid (F_173.out.ext h_177)
          have F_182 := Lib.hid (F_174.out.ext h_177)
          have F_183 := Lib.hid (F_175.out.ext h_177)
          have F_184 := Lib.hid (P_169.out.ext h_177)
          clear B_170 F_171 F_172 F_173 F_174 F_175 P_169
          clear h_177
          refine takeV (i := 20) (d := 105) (v := .bool true) rfl (by kernel_rfl) (by kernel_rfl) (by kernel_rfl) (fun _ _ _ h => h) rfl (fun _ _ => exPickT (v := .bool true) rfl rfl) B_178.out ?_
          simp only [Act.put, List.setIfInBounds_toArray, List.set_cons_zero, List.set_cons_succ]
          refine takeV (i := 21) (d := 106) (v := .bool true) rfl (by kernel_rfl) (by kernel_rfl) (by kernel_rfl) (fun _ _ _ h => h) rfl (fun _ _ => exMove (v := .bool true) rfl) B_178.out ?_
          simp only [Act.put, List.setIfInBounds_toArray, List.set_cons_zero, List.set_cons_succ]
          refine takeV (i := 22) (d := 107) (v := .pointer (some ⟨g_47, 0, none⟩)) rfl (by kernel_rfl) (by kernel_rfl) (by kernel_rfl) (fun _ _ _ h => h) rfl (fun _ _ => exMove (v := .pointer (some ⟨g_47, 0, none⟩)) rfl) B_178.out ?_
          simp only [Act.put, List.setIfInBounds_toArray, List.set_cons_zero, List.set_cons_succ]
          refine takeV (i := 24) (d := 109) (v := .pointer (some ⟨g_74, 0, none⟩)) rfl (by kernel_rfl) (by kernel_rfl) (by kernel_rfl) (fun _ _ _ h => h) rfl (fun _ _ => exMove (v := .pointer (some ⟨g_74, 0, none⟩)) rfl) B_178.out ?_
          simp only [Act.put, List.setIfInBounds_toArray, List.set_cons_zero, List.set_cons_succ]
          refine wpAnyH_all (rs := [23]) (by kernel_rfl) (by simp) ?_
          intro i hi
          simp only [List.mem_cons, List.not_mem_nil, or_false] at hi
          subst hi
          refine wpOp_of rfl rfl (wp_called (args := #[.pointer (some ⟨g_47, 0, none⟩)]) hcH (by simp only [List.map_toArray, List.map_cons, List.map_nil]; rfl) (heads48_any (F_79.out.ext B_178.out)) ?_)
          rintro e w_185 ⟨_, rfl, o_187, h_186⟩
          obtain ⟨A_188, c_189, rfl, _, p_190⟩ := PidsAt.of_own o_187 rfl
          have P_191 := Lib.hid p_190
          refine ⟨_, rfl, ext_trans B_178.out h_186, ?_⟩
          simp only [Act.put, List.setIfInBounds_toArray, List.set_cons_zero, List.set_cons_succ]
          have B_192 := Lib.hid (ext_trans B_178.out h_186)
          have F_193 := Lib.hid (F_179.out.ext h_186)
          have F_194 := Lib.hid (F_180.out.ext h_186)
          have F_195 := Lib.hid (F_181.out.ext h_186)
          have F_196 := Lib.hid (F_182.out.ext h_186)
          have F_197 := Lib.hid (F_183.out.ext h_186)
          have F_198 := Lib.hid (F_184.out.ext h_186)
          clear B_178 F_179 F_180 F_181 F_182 F_183 F_184
          clear o_187 h_186 p_190
          refine wpAnyH_all (rs := [25]) (by kernel_rfl) (by simp) ?_
          intro i hi
          simp only [List.mem_cons, List.not_mem_nil, or_false] at hi
          subst hi
          refine wpOp_of rfl rfl (wp_called (args := #[.pointer (some ⟨g_74, 0, none⟩)]) hcH (by simp only [List.map_toArray, List.map_cons, List.map_nil]; rfl) (heads48_any (H_77.out.ext B_192.out)) ?_)
          rintro e w_199 ⟨_, rfl, o_201, h_200⟩
          obtain ⟨A_202, c_203, rfl, _, p_204⟩ := PidsAt.of_own o_201 rfl
          have P_205 := Lib.hid p_204
          refine ⟨_, rfl, ext_trans B_192.out h_200, ?_⟩
          simp only [Act.put, List.setIfInBounds_toArray, List.set_cons_zero, List.set_cons_succ]
          have B_206 := Lib.hid (ext_trans B_192.out h_200)
          have F_207 := Lib.hid (F_193.out.ext h_200)
          have F_208 := Lib.hid (F_194.out.ext h_200)
          have F_209 := Lib.hid (F_195.out.ext h_200)
          have F_210 := Lib.hid (F_196.out.ext h_200)
          have F_211 := Lib.hid (F_197.out.ext h_200)
          have F_212 := Lib.hid (F_198.out.ext h_200)
          have F_213 := Lib.hid (P_191.out.ext h_200)
          clear B_192 F_193 F_194 F_195 F_196 F_197 F_198 P_191
          clear o_201 h_200 p_204
          refine wpAnyH_all (rs := [26]) (by kernel_rfl) (by simp) ?_
          intro i hi
          simp only [List.mem_cons, List.not_mem_nil, or_false] at hi
          subst hi
          refine wpOp_of rfl rfl (wp_called (args := #[.slice A_188 (someD (namesH l) (headR (relH l) (namesH l).length)).length c_189, .slice A_202 (someD (namesH l) (headR (relH l) (namesH l).length)).length c_203]) hcS (by simp only [List.map_toArray, List.map_cons, List.map_nil]; rfl) ((rsameP _ _ w_199 _ _ _ _ _ _ F_213.out P_205.out LN4.out).mono fun _ _ => RetB.ofD) ?_)
          rintro e w_214 ⟨rfl, h_215⟩
          rw [decide_eq_true rfl]
          refine ⟨_, rfl, ext_trans B_206.out h_215, ?_⟩
          simp only [Act.put, List.setIfInBounds_toArray, List.set_cons_zero, List.set_cons_succ]
          have B_216 := Lib.hid (ext_trans B_206.out h_215)
          have F_217 := Lib.hid (F_207.out.ext h_215)
          have F_218 := Lib.hid (F_208.out.ext h_215)
          have F_219 := Lib.hid (F_209.out.ext h_215)
          have F_220 := Lib.hid (F_210.out.ext h_215)
          have F_221 := Lib.hid (F_211.out.ext h_215)
          have F_222 := Lib.hid (F_212.out.ext h_215)
          have F_223 := Lib.hid (F_213.out.ext h_215)
          have F_224 := Lib.hid (P_205.out.ext h_215)
          clear B_206 F_207 F_208 F_209 F_210 F_211 F_212 F_213 P_205
          clear h_215
          refine takeV (i := 27) (d := 112) (v := .bool true) rfl (by kernel_rfl) (by kernel_rfl) (by kernel_rfl) (fun _ _ _ h => h) rfl (fun _ _ => exPickT (v := .bool true) rfl rfl) B_216.out ?_
          simp only [Act.put, List.setIfInBounds_toArray, List.set_cons_zero, List.set_cons_succ]
          refine takeV (i := 28) (d := 113) (v := .bool true) rfl (by kernel_rfl) (by kernel_rfl) (by kernel_rfl) (fun _ _ _ h => h) rfl (fun _ _ => exMove (v := .bool true) rfl) B_216.out ?_
          simp only [Act.put, List.setIfInBounds_toArray, List.set_cons_zero, List.set_cons_succ]
          refine wpAnyH_all (rs := [29]) (by kernel_rfl) (by simp) ?_
          intro i hi
          simp only [List.mem_cons, List.not_mem_nil, or_false] at hi
          subst hi
          refine wpOp_of rfl rfl (wp_called (args := #[]) hcW (by simp) (works48 w_214) ?_)
          rintro e w_225 ⟨rfl, h_226⟩
          refine ⟨_, rfl, ext_trans B_216.out h_226, ?_⟩
          simp only [Act.put, List.setIfInBounds_toArray, List.set_cons_zero, List.set_cons_succ]
          have B_227 := Lib.hid (ext_trans B_216.out h_226)
          have F_228 := Lib.hid (F_217.out.ext h_226)
          have F_229 := Lib.hid (F_218.out.ext h_226)
          have F_230 := Lib.hid (F_219.out.ext h_226)
          have F_231 := Lib.hid (F_220.out.ext h_226)
          have F_232 := Lib.hid (F_221.out.ext h_226)
          have F_233 := Lib.hid (F_222.out.ext h_226)
          have F_234 := Lib.hid (F_223.out.ext h_226)
          have F_235 := Lib.hid (F_224.out.ext h_226)
          clear B_216 F_217 F_218 F_219 F_220 F_221 F_222 F_223 F_224
          clear h_226
          refine takeV (i := 30) (d := 115) (v := .bool true) rfl (by kernel_rfl) (by kernel_rfl) (by kernel_rfl) (fun _ _ _ h => h) rfl (fun _ _ => exPickT (v := .bool true) rfl rfl) B_227.out ?_
          simp only [Act.put, List.setIfInBounds_toArray, List.set_cons_zero, List.set_cons_succ]
          refine takeV (i := 31) (d := 6) (v := .bool true) rfl (by kernel_rfl) (by kernel_rfl) (by kernel_rfl) (fun _ _ _ h => h) rfl (fun _ _ => exAssign (v := .bool true) rfl) B_227.out ?_
          simp only [Act.put, List.setIfInBounds_toArray, List.set_cons_zero, List.set_cons_succ]
          refine wpAnyH_done (by kernel_rfl) ?_ _
          have BF := Lib.hid (B6.out.trans (B_227.out.mono B6.out.size))
          clear B_227 F_228 F_229 F_230 F_231 F_232 F_233 F_234 F_235
          go_wp2
          go_ret
          exact ⟨rfl, BF.out⟩
end Go.Proofs.Ytnhbbggpgieipaa
