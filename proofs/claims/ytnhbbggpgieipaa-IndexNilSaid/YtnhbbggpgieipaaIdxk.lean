/- Of nil there is nothing; what is written into a patch that went in, or came out, turns nothing: walked. -/
import Derived.Test.YtnhbbggpgieipaaIdxt
namespace Go.Proofs.Ytnhbbggpgieipaa
open Go.RowKit

/-- an operation whose value is known, in a region that draws its order -/
theorem wpQuiet_val {P : Program} {ops : Array Oper} {S : World → Prop} {Q : Act → Prop} {rest : List Oper} {tmps : List Value} {ds : List Deferred} {d : Nat} {op : Op} {ty : TypeId} {v : Value} {pos : String} {after : Array Edge} {gd : Option (Nat × Bool)}
    (hr : ∀ w', S w' → (execOp (Act.eval ⟨tmps.toArray, ds⟩) ⟨some d, op, ty, pos, after, gd⟩).run P w' = .ok (.value v) w')
    (hw : Region.wanted ⟨some d, op, ty, pos, after, gd⟩ (yielded ops tmps.toArray) = true)
    (h : wpQuiet P ops S Q rest ⟨(tmps.set d v).toArray, ds⟩) :
    wpQuiet P ops S Q (⟨some d, op, ty, pos, after, gd⟩ :: rest) ⟨tmps.toArray, ds⟩ := by
  refine wpQuiet_step fun K hK => ?_
  rw [if_pos hw]
  refine ⟨v, ?_, hK _ ?_⟩
  · intro w hw'
    unfold Oper.quietAt
    rw [hr w hw']
    exact ⟨rfl, rfl⟩
  · have e : (Act.put ⟨tmps.toArray, ds⟩ (some d) v) = ⟨(tmps.set d v).toArray, ds⟩ := by simp [Act.put]
    rw [e]; exact h
set_option maxRecDepth 100000 in
set_option maxHeartbeats 8000000 in
theorem indexNil_walk (w : World) (l : List PatV) (A : Option Addr) (n c : Nat) (hm : n ≤ maxLen) (h : PatsAt w A n l) (v : List Int) (hv : VecOk v) :
    Calls Try.prog 6 #[.slice A n c, .agg (vecA v)] w (RetB w (.bool true)) := by
  have H := Lib.hid h
  have HV := Lib.hid hv
  have hs1 : Hid ((vecA v).size = 64) := by rw [Hid, vecA_size]; exact hv.len
  have K1 : Hid (Blk (w.alloc (.cells (vecA v) 25)) w.heap.size 25 (vecA v)) := Blk.new _ _ _
  have B0 : Hid (Below w.heap.size w (w.alloc (.cells (vecA v) 25))) := below_new _ _
  clear h hv
  go_enter Try.func6, Try.ntmps6
  go_upto_region 1 with fail
  generalize (w.alloc (.cells (vecA v) 25)) = w2 at *
  have H := Lib.hid (H.out.ext B0.out)
  generalize w.heap.size = g0 at K1 ⊢
  have HF := Lib.hid (few20_any l w2 A n c 10 H.out hm)
  cases hf : fewsB l 10
  · rw [fewsN_false hf] at HF
    go_wp2_with fail
    refine HF.out.mono ?_
    rintro e w3 ⟨rfl, b3⟩
    have B3 := Lib.hid (B0.out.trans (b3.mono B0.out.size))
    clear b3 HF
    go_wp2_with fail
    refine (works31 _).mono ?_
    rintro e w4 ⟨rfl, b4⟩
    have B4 := Lib.hid (B3.out.trans (b4.mono B3.out.size))
    clear b4
    go_wp2
    go_ret
    exact ⟨rfl, B4.out⟩
  · rw [fewsN_true hf] at HF
    have HQ := Lib.hid (fews_at hf)
    have hn20 : n ≤ 100 := by have h1 := HQ.out.1; have h2 := H.out.len; omega
    go_wp2_with fail
    refine HF.out.mono ?_
    rintro e w3 ⟨rfl, b3⟩
    have B3 := Lib.hid (B0.out.trans (b3.mono B0.out.size))
    have H := Lib.hid (H.out.ext b3)
    have K1 := Lib.hid (K1.out.ext b3)
    clear b3 HF hf
    have HGN : Hid (∀ u : World, Calls Try.prog 24 #[.pointer none, .agg #[.int .u8 1, .int .u16 1]] u (RetB u (.tuple #[.agg #[.int .u8 0, .int .u16 0, .slice none 0 0, .slice none 0 0], .bool false]))) := fun u => get31_nil (1, 1) u
    go_wp2_with (refine wpList_built (buildP11 _) (by rfl) ?_)
    refine (HGN.out _).mono ?_
    rintro e w4 ⟨rfl, b4⟩
    have B4 := Lib.hid (B3.out.trans (b4.mono B3.out.size))
    have H := Lib.hid (H.out.ext b4)
    have K1 := Lib.hid (K1.out.ext b4)
    have BA : Hid (Below w4.heap.size w4 ((w4.alloc (.cells #[.int .u8 0, .int .u16 0, .slice none 0 0, .slice none 0 0] 45)).setRow w4.heap.size #[.int .u8 0, .int .u16 0, .slice none 0 0, .slice none 0 0])) := below_setRow ((Below.refl _ _).alloc (Nat.le_refl _) _) (Nat.le_refl _) _
    clear b4 HGN
    go_upto_region 5 with (first
      | (refine wpList_alloced (allocPat _) ?_)
      | (refine wpList_store_row rfl 45 _ _ (by rfl) w4.heap.size #[.int .u8 0, .int .u16 0, .slice none 0 0, .slice none 0 0] (by rfl) (by rfl) _ _ (Blk.new _ _ _) infoPat rfl zeroC_one ?_))
    generalize ((w4.alloc (.cells #[.int .u8 0, .int .u16 0, .slice none 0 0, .slice none 0 0] 45)).setRow w4.heap.size #[.int .u8 0, .int .u16 0, .slice none 0 0, .slice none 0 0]) = w5 at *
    have B5 := Lib.hid (B4.out.trans (BA.out.mono B4.out.size))
    have H := Lib.hid (H.out.ext BA.out)
    have K1 := Lib.hid (K1.out.ext BA.out)
    clear BA B4
    generalize w4.heap.size = gz at *
    have N1 := Lib.hid (fun u => put31_nil #[.int .u8 0, .int .u16 0, .slice none 0 0, .slice none 0 0] u)
    have N2 := Lib.hid vec31_nil
    have N3 := Lib.hid len31_nil
    have N4 := Lib.hid all31_nil
    have N5 := Lib.hid (fun u => lack31_nil v u)
    have NEQ : ∀ u : World, (binOp .neq 25 (.agg (vecA vec0)) (.agg (vecA vec0))).run Try.prog u = .ok (.bool false) u := fun u => by kernel_rfl
    have BZ := buildPatZ
    have BV := buildVec0
    generalize hv0 : vecA vec0 = v0 at N2 NEQ BV
    refine wp_region_ext mixedS (by kernel_rfl) ?_
    repeat (first
      | go_big_quiet_skip
      | (refine wpQuiet_load_row K1.out under64 rfl (by rw [hs1.out]; exact info64) rfl rfl ?_; simp only [List.set_cons_succ, List.set_cons_zero])
      | (refine wpQuiet_val (v := .agg v0) (fun w' _ => exBuild (vs := #[]) (by simp) (BV w')) rfl ?_; simp only [List.set_cons_succ, List.set_cons_zero])
      | go_big_quiet_step ((first
        | (go_at_call 20; exact ext_call (N1.out _))
        | (go_at_call 18; exact ext_call (N2.out _))
        | (go_at_call 21; exact ext_call (N3.out _))
        | (go_at_call 17; exact ext_call (N4.out _))
        | (go_at_call 15; exact ext_call (N5.out _)))))
    refine wpQuiet_nil ?_
    rintro _ ⟨z, rfl⟩
    have B6 := Lib.hid (B5.out.trans (z.h.mono B5.out.size))
    have H := Lib.hid (H.out.ext z.h)
    have K1 := Lib.hid (K1.out.ext z.h)
    generalize z.w = w6 at *
    clear N1 N2 N3 N4 N5 NEQ BZ BV B5 hv0
    go_wp2_with fail
    refine (made31_any l w6 A n c H.out hn20 HQ.out.2).mono ?_
    rintro e w7 ⟨g1, F1, rfl, hI, hF1, b7⟩
    have HI := Lib.hid hI
    have H := Lib.hid (H.out.ext b7)
    have K1 := Lib.hid (K1.out.ext b7)
    have B7 := Lib.hid (B6.out.trans (b7.mono B6.out.size))
    clear hI b7 hF1
    go_wp2_with fail
    refine (made31_any l w7 A n c H.out hn20 HQ.out.2).mono ?_
    rintro e w8 ⟨g2, F2, rfl, hJ, hF2, b8⟩
    have HJ := Lib.hid hJ
    have HI := Lib.hid (HI.out.ext b8)
    have K1 := Lib.hid (K1.out.ext b8)
    have B8 := Lib.hid (B7.out.trans (b8.mono B7.out.size))
    have hl : Hid ((madeL l).length ≤ 100) := Nat.le_trans (madeL_len l) (by have := H.out.len; omega)
    have RB := Lib.hid (blk_vec K1.out)
    have g0l : Hid (g0 < w8.heap.size) := K1.out.lt
    clear hJ b8 hF2 H HQ K1
    generalize madeL l = L at *
    have hLs : Hid (L.length ≤ 100 ∧ (lackP v L).length ≤ 100) := ⟨hl.out, Nat.le_trans (List.length_filter_le _ _) hl.out⟩
    have HAL := Lib.hid (fun (u : World) (hu : Below w8.heap.size w8 u) => all31N_any (HI.out.ext hu) (by have := hl.out; omega))
    have HLK := Lib.hid (fun (u : World) (hu : Below w8.heap.size w8 u) => lack31N_any (HI.out.ext hu) (by have := hl.out; omega) v HV.out)
    have hcL : ∀ args u, (callFunc 15 args).run Try.prog u = .ok (.enter 15 args) u := enters_of Try.func15 (by kernel_rfl) rfl
    have hcA : ∀ args u, (callFunc 17 args).run Try.prog u = .ok (.enter 17 args) u := enters_of Try.func17 (by kernel_rfl) rfl
    go_upto_region 8 with fail
    refine wp_region_held (S := fun w' => Below w8.heap.size w8 w') mixedS ?_
    change wpAnyH _ _ _ _ _ _ _ _ w8.drew
    have B8d : Hid (Below w8.heap.size w8 w8.drew) := (Below.refl _ _).drew
    generalize w8.drew = w8d at B8d ⊢
    simp only [List.size_toArray, List.length_cons, List.length_nil]
    refine takeV (i := 0) (d := 57) (v := .pointer (some ⟨g1, 0, none⟩)) rfl (by kernel_rfl) (by kernel_rfl) (by kernel_rfl) (fun _ _ _ h => h) rfl (fun _ _ => exMove (v := .pointer (some ⟨g1, 0, none⟩)) rfl) B8d.out ?_
    simp only [Act.put, List.setIfInBounds_toArray, List.set_cons_zero, List.set_cons_succ]
    refine takeV (i := 2) (d := 59) (v := .pointer (some ⟨g1, 0, none⟩)) rfl (by kernel_rfl) (by kernel_rfl) (by kernel_rfl) (fun _ _ _ h => h) rfl (fun _ _ => exMove (v := .pointer (some ⟨g1, 0, none⟩)) rfl) B8d.out ?_
    simp only [Act.put, List.setIfInBounds_toArray, List.set_cons_zero, List.set_cons_succ]
    refine takeV (i := 3) (d := 60) (v := .agg (vecA v)) rfl (by kernel_rfl) (by kernel_rfl) (by kernel_rfl) (fun _ _ _ h => h) rfl (fun w' h => exMid rfl (rangeAt_below RB.out h g0l.out) under64 rfl (info64' HV.out)) B8d.out ?_
    simp only [Act.put, List.setIfInBounds_toArray, List.set_cons_zero, List.set_cons_succ]
    refine wpAnyH_all (rs := [1]) (by kernel_rfl) (by simp) ?_
    intro i hi
    simp only [List.mem_cons, List.not_mem_nil, or_false] at hi
    subst hi
    refine wpOp_of rfl rfl (wp_called (args := #[.pointer (some ⟨g1, 0, none⟩)]) hcA (by simp only [List.map_toArray, List.map_cons, List.map_nil]; rfl) (HAL.out w8d B8d.out) ?_)
    rintro e wa ⟨s1, rfl, OA, ba⟩
    obtain ⟨A1, c1, rfl, _⟩ := OA.slice
    have OA := Lib.hid (OA.mono B8d.out.size)
    have hsA : Hid (∀ k, (Value.slice A1 L.length c1).ownBlock = some k → k < wa.heap.size) := fun k e => by
      obtain ⟨_, _, ow, _⟩ := OA.out
      exact (ow.lt k e).2
    refine ⟨_, rfl, ext_trans B8d.out ba, ?_⟩
    simp only [Act.put, List.setIfInBounds_toArray, List.set_cons_zero, List.set_cons_succ]
    have B_1 := Lib.hid (ext_trans B8d.out ba)
    clear B8d
    clear ba
    refine wpAnyH_all (rs := [4]) (by kernel_rfl) (by simp) ?_
    intro i hi
    simp only [List.mem_cons, List.not_mem_nil, or_false] at hi
    subst hi
    refine wpOp_of rfl rfl (wp_called (args := #[.pointer (some ⟨g1, 0, none⟩), .agg (vecA v)]) hcL (by simp only [List.map_toArray, List.map_cons, List.map_nil]; rfl) (HLK.out wa B_1.out) ?_)
    rintro e wb ⟨s2, rfl, OB, bb⟩
    obtain ⟨A2, c2, rfl, _⟩ := OB.slice
    have OB := Lib.hid OB
    have hwa := Lib.hid (OA.out)
    have hwl := Lib.hid B_1.out.size
    refine ⟨_, rfl, ext_trans B_1.out bb, ?_⟩
    simp only [Act.put, List.setIfInBounds_toArray, List.set_cons_zero, List.set_cons_succ]
    have B_2 := Lib.hid (ext_trans B_1.out bb)
    have F_3 := Lib.hid (OA.out.ext bb)
    clear B_1 OA
    clear bb
    refine wpAnyH_all (rs := [5]) (by kernel_rfl) (by simp) ?_
    intro i hi
    simp only [List.mem_cons, List.not_mem_nil, or_false] at hi
    subst hi
    obtain ⟨rows, D, o1, o2, o3⟩ := F_3.out
    obtain ⟨rows2, D2, p1, p2, p3⟩ := OB.out
    obtain ⟨A9, c9, e9, _, sl9⟩ := Sl.of_own p1
    injection e9 with e9 _ _
    subst e9
    refine wpOp_of rfl rfl (wp_catF patSl o1 sl9 p2.ones B_2.out.size (by have := hLs.out; omega) (by have := hLs.out; unfold maxLen; omega) rfl rfl ?_)
    intro v9 w9 own9 kep9 new9
    have AN := Lib.hid (OwnN.cat (C := wa.heap.size) own9 kep9 new9 o2 o3 p2 p3 hwl.out (fun k e => hsA.out k e))
    have B9 : Hid (Below w8.heap.size w8 w9) := B_2.out.trans (kep9.below (fun k e => (o1.lt k e).1) B_2.out.size)
    obtain ⟨A3, c3, rfl, _⟩ := AN.out.slice
    clear own9 kep9 new9 o1 o2 o3 p1 p2 p3 sl9
    refine ⟨B9.out, ?_⟩
    simp only [Act.put, List.setIfInBounds_toArray, List.set_cons_zero, List.set_cons_succ]
    refine takeV (i := 6) (d := 10) (v := .slice A3 (L ++ lackP v L).length c3) rfl (by kernel_rfl) (by kernel_rfl) (by kernel_rfl) (fun _ _ _ h => h) rfl (fun _ _ => exAssign (v := .slice A3 (L ++ lackP v L).length c3) rfl) B9.out ?_
    simp only [Act.put, List.setIfInBounds_toArray, List.set_cons_zero, List.set_cons_succ]
    refine wpAnyH_done (by kernel_rfl) ?_ _
    obtain ⟨ids, hids, AW⟩ : ∃ ids : List PidV, ids.length = (L ++ lackP v L).length ∧ AllW w8.heap.size w9 (.slice A3 ids.length c3) ids := ⟨(L ++ lackP v L).map (·.1), by simp, by have := AN.out.allw; simpa using this⟩
    have hN : ids.length ≤ 300 := by have := hLs.out; rw [hids, List.length_append]; omega
    rw [← hids]
    have AW := Lib.hid AW
    clear AN hids
    go_wp2_with fail
    have hm1 : (ids.length : Int) ≤ 9223372036854775807 := by omega
    go_loopw [65] (fun i wr => ∃ k : Nat, k ≤ ids.length ∧ i = .int .i64 k ∧ Hid (AllW w8.heap.size wr (.slice A3 ids.length c3) ids) ∧ Hid (Below w8.heap.size w8 wr)) (fun i _ => ids.length - (intOf i).toNat)
    case atStart => exact ⟨0, by omega, rfl, AW.out, B9.out⟩
    case round =>
      clear AW B9
      obtain ⟨k, hk, rfl, AW, B⟩ := hrel
      have hk0 : (0 : Int) ≤ (k : Int) := by omega
      by_cases hlt : k < ids.length
      · have hlk : (k : Int) < (ids.length : Int) := by omega
        obtain ⟨b, d, A4, n4, c4, A5, n5, c5, rfl, hb, hd, R, hn5, ops⟩ := AW.out.at_ hlt
        have R := Lib.hid R
        have OPS := Lib.hid ops
        unfold maxLen at hn5
        have t3 : wr.cell? ⟨b, k * 4 + 3, none⟩ = some (.slice A5 n5 c5) := R.out 3 _ rfl
        clear ops hd
        go_wp2_with fail
        clear t3
        go_loopw [74] (fun j wq => ∃ m : Nat, m ≤ n5 ∧ j = .int .i64 m ∧ Hid (AllW w8.heap.size wq (.slice (some ⟨b, 0, none⟩) ids.length c3) ids) ∧ Hid (wq.rangeAt b (k * 4) (patC d A4 n4 c4 A5 n5 c5)) ∧ Hid (0 < n5 → ∃ b' o', A5 = some ⟨b', o', none⟩ ∧ w8.heap.size ≤ b' ∧ b' < wq.heap.size ∧ b' ≠ b ∧ NFr wq b' ∧ NumsAt wq .u8 b' (fun j => o' + j * 8) n5) ∧ Hid (Below w8.heap.size w8 wq)) (fun j _ => n5 - (intOf j).toNat)
        case atStart => exact ⟨0, by omega, rfl, AW.out, R.out, OPS.out, B.out⟩
        case round =>
          clear AW B R OPS
          obtain ⟨m, hmn, rfl, AW, R, OPS, B⟩ := hrel
          have hm0 : (0 : Int) ≤ (m : Int) := by omega
          have t3 : wr.cell? ⟨b, k * 4 + 3, none⟩ = some (.slice A5 n5 c5) := R.out 3 _ rfl
          by_cases hmlt : m < n5
          · have hmlk : (m : Int) < (n5 : Int) := by omega
            obtain ⟨b', o', rfl, hB', hbl', hne', nf, nums⟩ := OPS.out (by omega)
            obtain ⟨z, hz, hc⟩ := nums m hmlt
            obtain ⟨z0, z1⟩ := u8_of hz
            have f0 : wr.frozen? ⟨b', o' + m * 8, none⟩ = false := nf.fr _
            have hz' : (Lit.int .u8 ((z + 1) % 256)).wf = true := by simp [Lit.wf, IntKind.min, IntKind.max, IntKind.signed, IntKind.bits]; omega
            have AW2 := Lib.hid (AW.out.set (o := o' + m * 8) hne' nf hz')
            have R2 : Hid ((wr.setCell ⟨b', o' + m * 8, none⟩ (.int .u8 ((z + 1) % 256))).rangeAt b (k * 4) (patC d A4 n4 c4 (some ⟨b', o', none⟩) n5 c5)) := rangeAt_keep R.out fun j => World.cell?_of_block (a := ⟨b, j, none⟩) (Below.heap_setCell wr ⟨b', o' + m * 8, none⟩ _ b (fun e => hne' e.symm))
            have OPS2 : Hid (0 < n5 → ∃ b2 o2, some (⟨b', o', none⟩ : Addr) = some ⟨b2, o2, none⟩ ∧ w8.heap.size ≤ b2 ∧ b2 < (wr.setCell ⟨b', o' + m * 8, none⟩ (.int .u8 ((z + 1) % 256))).heap.size ∧ b2 ≠ b ∧ NFr (wr.setCell ⟨b', o' + m * 8, none⟩ (.int .u8 ((z + 1) % 256))) b2 ∧ NumsAt (wr.setCell ⟨b', o' + m * 8, none⟩ (.int .u8 ((z + 1) % 256))) .u8 b2 (fun j => o2 + j * 8) n5) :=
              fun _ => ⟨b', o', rfl, hB', by simpa [World.setCell] using hbl', hne', nf.set _ rfl _, nums.set nf hz'⟩
            have B2 : Hid (Below w8.heap.size w8 (wr.setCell ⟨b', o' + m * 8, none⟩ (.int .u8 ((z + 1) % 256)))) := B.out.setCell hB' _
            clear AW R OPS B nf nums hz hz'
            go_wp2_with fail
            go_roundw
            case rel => exact ⟨m + 1, by omega, by go_num, AW2.out, R2.out, OPS2.out, B2.out⟩
            case measure => simp [intOf]; omega
          · have hmlk : ¬ ((m : Int) < (n5 : Int)) := by omega
            have HIw := Lib.hid (HI.out.ext B.out)
            have RP := Lib.hid (pid_range R.out)
            have HG := Lib.hid (get31N_any HIw.out d)
            clear OPS t3 R HIw
            generalize getV L d = q at HG
            go_wp2_with (refine wpList_load_mid rfl 41 _ (by rfl) b (k * 4) (by rfl) _ _ RP.out underPid rfl infoPid ?_)
            refine HG.out.mono ?_
            generalize wr = wq at *
            rintro e w10 ⟨cq, rfl, ⟨⟨A6, c6, A7, c7, rfl, hPd, _, iP, _⟩, hnd, _⟩, b10⟩
            unfold maxLen at hnd
            have PD := Lib.hid hPd
            have IP := Lib.hid iP
            have K10 : Hid (Blk ((w10.alloc (.cells #[.int .u8 0, .int .u16 0, .slice none 0 0, .slice none 0 0] 45)).setRow w10.heap.size (patC q.1 A6 q.2.1.length c6 A7 q.2.2.length c7).toArray) w10.heap.size 45 (patC q.1 A6 q.2.1.length c6 A7 q.2.2.length c7).toArray) := (Blk.new _ _ _).row _
            have BA : Hid (Below w10.heap.size w10 ((w10.alloc (.cells #[.int .u8 0, .int .u16 0, .slice none 0 0, .slice none 0 0] 45)).setRow w10.heap.size (patC q.1 A6 q.2.1.length c6 A7 q.2.2.length c7).toArray)) := below_setRow ((Below.refl _ _).alloc (Nat.le_refl _) _) (Nat.le_refl _) _
            have BI0 := Lib.hid b10
            clear hPd iP b10 HG RP
            go_upto_region 18 with (first
              | (refine wpList_alloced (allocPat _) ?_)
              | (refine wpList_store_row rfl 45 _ _ (by rfl) w10.heap.size (patC q.1 A6 q.2.1.length c6 A7 q.2.2.length c7).toArray (by rfl) (by rfl) _ _ (Blk.new _ _ _) infoPat rfl patC_one ?_))
            generalize ((w10.alloc (.cells #[.int .u8 0, .int .u16 0, .slice none 0 0, .slice none 0 0] 45)).setRow w10.heap.size (patC q.1 A6 q.2.1.length c6 A7 q.2.2.length c7).toArray) = w11 at *
            have DSH : Hid (0 < q.2.1.length → ∃ b2 o2, A6 = some ⟨b2, o2, none⟩ ∧ wq.heap.size ≤ b2 ∧ b2 < w10.heap.size ∧ b2 < w11.heap.size ∧ NFr w11 b2 ∧ NumsAt w11 .u16 b2 (fun j => o2 + j * 2 + 1) q.2.1.length) := by
              intro hp
              obtain ⟨b2, o2, e2, hb2, hc2⟩ := PD.out.sl.2 hp
              obtain ⟨i1, i2, i3⟩ := IP.out hp b2 o2 e2
              refine ⟨b2, o2, e2, i1, i2, Nat.lt_of_lt_of_le i2 BA.out.size, i3.keep (BA.out.block b2 i2), NumsAt.stay (fun j hj => ?_) (BA.out.block b2 i2)⟩
              have hj' : j < q.2.1.length := hj
              refine ⟨((q.2.1[j].2.val : Nat) : Int), lit_u16 _, ?_⟩
              have hg := flatMap_get (size := 2) encP q.2.1 (fun _ _ => rfl) j 1 hj' (by omega)
              have := hc2 (j * 2 + 1) (by omega)
              rw [hg] at this
              rw [Nat.add_assoc]
              exact this
            have BI := Lib.hid (BI0.out.trans (BA.out.mono BI0.out.size))
            have hgp := Lib.hid BI0.out.size
            have y2 : w11.cell? ⟨w10.heap.size, 2, none⟩ = some (.slice A6 q.2.1.length c6) := K10.out.cell 2
            clear BA BI0 PD IP
            generalize w10.heap.size = gp at *
            go_wp2_with fail
            clear y2
            go_loopw [103] (fun j wx => ∃ m : Nat, m ≤ q.2.1.length ∧ j = .int .i64 m ∧ Hid (Blk wx gp 45 (patC q.1 A6 q.2.1.length c6 A7 q.2.2.length c7).toArray) ∧ Hid (0 < q.2.1.length → ∃ b2 o2, A6 = some ⟨b2, o2, none⟩ ∧ wq.heap.size ≤ b2 ∧ b2 < gp ∧ b2 < wx.heap.size ∧ NFr wx b2 ∧ NumsAt wx .u16 b2 (fun j => o2 + j * 2 + 1) q.2.1.length) ∧ Hid (Below wq.heap.size wq wx)) (fun j _ => q.2.1.length - (intOf j).toNat)
            case atStart => exact ⟨0, by omega, rfl, K10.out, DSH.out, BI.out⟩
            case round =>
              clear K10 DSH BI
              obtain ⟨m2, hmn2, rfl, KP, DSH, BI⟩ := hrel
              have hm0' : (0 : Int) ≤ (m2 : Int) := by omega
              have y2 : wr.cell? ⟨gp, 2, none⟩ = some (.slice A6 q.2.1.length c6) := KP.out.cell 2
              by_cases hmlt2 : m2 < q.2.1.length
              · have hmlk2 : (m2 : Int) < (q.2.1.length : Int) := by omega
                obtain ⟨b2, o2, rfl, hB2, hg2, hbl2, nf, nums⟩ := DSH.out (by omega)
                obtain ⟨z, hz, hc⟩ := nums m2 hmlt2
                obtain ⟨z0, z1⟩ := u16_of hz
                have f0 : wr.frozen? ⟨b2, o2 + m2 * 2 + 1, none⟩ = false := nf.fr _
                have hz' : (Lit.int .u16 ((z + 1) % 65536)).wf = true := by simp [Lit.wf, IntKind.min, IntKind.max, IntKind.signed, IntKind.bits]; omega
                have KP2 := Lib.hid (KP.out.far (p := ⟨b2, o2 + m2 * 2 + 1, none⟩) (fun e => absurd (show gp = b2 from e) (Nat.ne_of_gt hg2)) (.int .u16 ((z + 1) % 65536)))
                have DSH2 : Hid (0 < q.2.1.length → ∃ b3 o3, some (⟨b2, o2, none⟩ : Addr) = some ⟨b3, o3, none⟩ ∧ wq.heap.size ≤ b3 ∧ b3 < gp ∧ b3 < (wr.setCell ⟨b2, o2 + m2 * 2 + 1, none⟩ (.int .u16 ((z + 1) % 65536))).heap.size ∧ NFr (wr.setCell ⟨b2, o2 + m2 * 2 + 1, none⟩ (.int .u16 ((z + 1) % 65536))) b3 ∧ NumsAt (wr.setCell ⟨b2, o2 + m2 * 2 + 1, none⟩ (.int .u16 ((z + 1) % 65536))) .u16 b3 (fun j => o3 + j * 2 + 1) q.2.1.length) :=
                  fun _ => ⟨b2, o2, rfl, hB2, hg2, by simpa [World.setCell] using hbl2, nf.set _ rfl _, nums.set nf hz'⟩
                have BI2 : Hid (Below wq.heap.size wq (wr.setCell ⟨b2, o2 + m2 * 2 + 1, none⟩ (.int .u16 ((z + 1) % 65536)))) := BI.out.setCell hB2 _
                clear KP DSH BI nf nums hz hz'
                go_wp2_with fail
                go_roundw
                case rel => exact ⟨m2 + 1, by omega, by go_num, KP2.out, DSH2.out, BI2.out⟩
                case measure => simp [intOf]; omega
              · have hmlk2 : ¬ ((m2 : Int) < (q.2.1.length : Int)) := by omega
                have AW2 := Lib.hid (AW.out.ext BI.out)
                have B2 := Lib.hid (B.out.trans (BI.out.mono B.out.size))
                clear AW B BI KP DSH y2
                go_wp2_with fail
                go_roundw
                case rel => exact ⟨k + 1, by omega, by go_num, AW2.out, B2.out⟩
                case measure => simp [intOf]; omega
      · have hlk : ¬ ((k : Int) < (ids.length : Int)) := by omega
        have hlm : Hid (L.length ≤ maxLen) := by have := hl.out; rw [Hid]; unfold maxLen; omega
        have BW := Lib.hid (B8.out.trans (B.out.mono B8.out.size))
        have HI := Lib.hid (HI.out.ext B.out)
        have HJ := Lib.hid (HJ.out.ext B.out)
        clear AW B
        go_wp2_with fail
        refine (all31_any HI.out (by have := hl.out; omega)).mono ?_
        rintro e wa ⟨sa, rfl, O, ba⟩
        obtain ⟨A6, c6, rfl, _⟩ := O.slice
        have PA := Lib.hid O.pats.at_
        have HJ := Lib.hid (HJ.out.ext ba)
        have BW := Lib.hid (BW.out.trans (ba.mono BW.out.size))
        clear O ba HI
        go_wp2_with fail
        refine (all31_any HJ.out (by have := hl.out; omega)).mono ?_
        rintro e wb ⟨sb, rfl, O, bb⟩
        obtain ⟨A7, c7, rfl, _⟩ := O.slice
        have PB := Lib.hid O.pats.at_
        have PA := Lib.hid (PA.out.ext bb)
        have BW := Lib.hid (BW.out.trans (bb.mono BW.out.size))
        clear O bb HJ
        go_wp2_with fail
        refine (patches30_same L wb A6 A7 L.length c6 c7 PA.out PB.out hlm.out).mono ?_
        rintro e wc ⟨rfl, bc⟩
        have BW := Lib.hid (BW.out.trans (bc.mono BW.out.size))
        clear bc PA PB
        go_wp2_with fail
        refine (works31 _).mono ?_
        rintro e wd ⟨rfl, bd⟩
        have BW := Lib.hid (BW.out.trans (bd.mono BW.out.size))
        clear bd
        go_wp2
        go_ret
        exact ⟨rfl, BW.out⟩
end Go.Proofs.Ytnhbbggpgieipaa
