/- The patches of a piece: walked. -/
import Derived.Test.YtihggkmjalofiaaGreatDoorFara
import Derived.Test.YtihggkmjalofiaaGreatDoorImgf
namespace Go.Proofs.YtihggkmjalofiaaGreatDoor
open Go.RowKit

theorem sub32 {n m : Nat} (h : n = m + 32) (hn : n ≤ 9223372036854775807) (w : World) : (binOp .sub 3 (.int .i64 (n : Int)) (.int .i64 32)).run Tryz.prog w = .ok (.int .i64 (m : Int)) w := by
  have e : IntKind.i64.wrap ((n : Int) - 32) = (m : Int) := by
    rw [IntWalk.i64_in _ (by omega)]; omega
  rw [← e]
  simp [go_sem]
theorem arrayAt32 (b o c : Nat) (w : World) : (Instr.arrayAt 37 (.slice (some ⟨b, o, none⟩) 32 c)).run Tryz.prog w = .ok (.pointer (some ⟨b, o, none⟩)) w := by
  unfold Instr.arrayAt
  simp [run_underlying under32F]
theorem exArr {P : Program} {ρ : Operand → Value} {w : World} {d : Option Tmp} {ty t : TypeId} {pos : String} {after : Array Edge} {gd : Option (Nat × Bool)} {x : Operand} {xv v : Value} (hx : ρ x = xv) (hr : (Instr.arrayAt t xv).run P w = .ok v w) : (execOp ρ ⟨d, .sliceToArrayPointer t x, ty, pos, after, gd⟩).run P w = .ok (.value v) w := by
  unfold execOp
  simp only [hx, Sem.run_bind, hr, Result.andThen_ok, Sem.run_pure]
set_option maxRecDepth 100000 in
theorem wp_litBB {Q : Exit → Act → World → Prop} {K : Act → World → Prop} {a : Act} {w : World} {d : Option Tmp} {ty : TypeId} {pos : String} {after : Array Edge} {gd : Option (Nat × Bool)} {x : Operand} {A : Option Addr} {m c : Nat} (hx : a.eval x = .slice A m c)
    (h : K (a.put d (.slice (some ⟨w.heap.size, 0, none⟩) 1 1)) (w.alloc (.cells #[.slice A m c] 46))) : Oper.wp Tryz.prog ⟨d, .buildSlice 235 1 #[(0, x)], ty, pos, after, gd⟩ a w K Q := by
  have hinfo : (Tryz.prog.info? 46).map (fun i => (i.zero, i.size)) = some (some (.slice none 0 0), 1) := by kernel_rfl
  obtain ⟨i, hi, hzz⟩ := Option.map_eq_some_iff.1 hinfo
  have hz : i.zero = some (.slice none 0 0) := congrArg Prod.fst hzz
  have hs : i.size = 1 := congrArg Prod.snd hzz
  refine wp_buildSlice 235 46 1 #[(0, x)] rfl #[.slice A m c] i (.slice none 0 0) Tryz.underlying235 hi hz (by rw [hs]; omega) (by rw [hs]; omega) ?_ h
  rw [hs]
  simp only [List.map_toArray, List.map_cons, List.map_nil, hx]
  kernel_rfl
theorem neqS53 (a b : List UInt8) (w : World) : (binOp .neq 9 (.string (bytesOf a)) (.string (bytesOf b))).run Tryz.prog w = .ok (.bool (!decide (a = b))) w := by
  by_cases h : a = b
  · subst h
    simp [go_sem]
  · have h1 : ¬ (bytesOf a).toList = (bytesOf b).toList := fun e => h (by
      rw [ByteArray.toList_eq, ByteArray.toList_eq] at e
      simpa [bytesOf] using e)
    rw [decide_eq_false h]
    simp [go_sem, h1]
theorem ngI53 (x y : Operand) (a b : Int) (w : World) : (eqGuard .neq 35 x y (.int .i64 a) (.int .i64 b)).run Tryz.prog w = .ok () w := by simp [eqGuard, go_sem]
theorem ngS53 (x y : Operand) (a b : ByteArray) (w : World) : (eqGuard .neq 9 x y (.string a) (.string b)).run Tryz.prog w = .ok () w := by simp [eqGuard, go_sem]
theorem decImg_at {b : List UInt8} {m : Nat} (h : b.length = m + 32) : decImg b = if sumS kS hS (b.take m) ≠ b.drop m then ([], 5) else if (readI (b.take m)).2 ≠ 0 then ([], (readI (b.take m)).2) else if plainI (readI (b.take m)).1 = (b.take m, 0) then ((readI (b.take m)).1, 0) else ([], 4) := by
  have e : b.length - 32 = m := by omega
  unfold decImg cutI
  rw [if_neg (by omega), e]
/-- what is few enough to be written out again -/
def FewI (ps : List PatV) : Prop := ps.length ≤ 9000 ∧ depsN ps ≤ 900000 ∧ (∀ p ∈ ps, p.2.1.length ≤ 100000 ∧ p.2.2.length ≤ 100000) ∧ (okI ps = true → (imgB ps).length ≤ 800000)
theorem decImg_short {b : List UInt8} (h : b.length < 32) : decImg b = ([], 2) := by unfold decImg; rw [if_pos h]
def DecIRet (w : World) (b : List UInt8) (e : Ending) (w' : World) : Prop := Below w.heap.size w w' ∧ ∃ v, e = .returned (.tuple #[v, .int .i64 (((decImg b).2 : Nat) : Int)]) ∧ OwnC w.heap.size w' v (decImg b).1
set_option maxRecDepth 100000 in
set_option maxHeartbeats 16000000 in
theorem dec53_wide (b : List UInt8) (w : World) (A : Option Addr) (n c : Nat) (h : BytesAt w A n c b) (hl : b.length ≤ 90000) (hF : ∀ ps, readI (cutI b) = (ps, 0) → FewI ps) (hK : ShaK w) (hSB : ShaB w) : Calls Tryz.prog 30 #[.slice A n c] w (DecIRet w b) := by
  have hln := h.len
  have BR := Lib.hid (Below.refl w.heap.size w)
  by_cases hn4 : n < 32
  · have E := Lib.hid (decImg_short (b := b) (by omega))
    have z : (n : Int) - 32 < 0 := by omega
    have zz : IntKind.i64.wrap ((n : Int) - 32) = (n : Int) - 32 := IntWalk.i64_in _ (by omega)
    clear h hK hSB
    go_enter Tryz.func30, Tryz.ntmps30
    go_wp2_with fail
    refine bodyPost_ret (v := .tuple #[.slice none 0 0, .int .i64 2]) ?_ rfl ⟨BR.out, .slice none 0 0, by rw [E.out]; rfl, by rw [E.out]; exact OwnC.nil _ _⟩
    simp [results, Tryz.results30, go_sem]
  · obtain ⟨m, hnm⟩ : ∃ m, n = m + 32 := ⟨n - 32, by omega⟩
    have E := Lib.hid (decImg_at (b := b) (m := m) (by omega))
    obtain ⟨b0, o0, rfl, hb0, _⟩ := h.sl.2 (by omega)
    have hbl := Lib.hid hb0
    have hcap := h.cap
    have SB := Lib.hid (fun u => sub32 hnm (by omega) u)
    have CL := Lib.hid (fun u => run_slice_low byteSl (A := some ⟨b0, o0, none⟩) (n := n) (c := c) (k := m) (by omega) u)
    have CH := Lib.hid (fun u => run_slice_high byteSl (A := some ⟨b0, o0, none⟩) (n := n) (c := c) (k := m) (by omega) u)
    have LO := h.low (k := m) (by omega)
    have HI := Lib.hid (h.top (k := m) (by omega))
    have e4 : n - m = 32 := by omega
    have ecut : cutAddr (some ⟨b0, o0, none⟩) c m 1 = some ⟨b0, o0 + m * 1, none⟩ := by
      unfold cutAddr
      rw [if_neg (by omega)]
      simp [Addr.add]
    rw [e4, ecut] at LO CL
    have RT : Hid (w.rangeAt b0 (o0 + m * 1) (encB (b.drop m))) := by
      obtain ⟨b', o', e', _, hc⟩ := LO.sl.2 (by omega)
      injection e' with e'
      injection e' with e1 e2 _
      subst e1 e2
      intro j v hj
      rw [hc j (by have h1 := (List.getElem?_eq_some_iff.1 hj).1; rw [encB_lenS, LO.len] at h1; omega)]
      exact hj
    have h32 : Hid ((b.drop m).length = 32) := LO.len
    have hpl : Hid ((b.take m).length = m) := HI.out.len
    have HK := Lib.hid hK
    have HS := Lib.hid hSB
    have z : ¬ (m : Int) < 0 := by omega
    have hm1 : m ≤ 90000 := by omega
    have HFW : Hid (∀ ps, readI (b.take m) = (ps, 0) → FewI ps) := fun ps hh => hF ps (by unfold cutI; rw [show b.length - 32 = m by omega]; exact hh)
    clear hF
    have hcS : ∀ args u, (callFunc 61 args).run Tryz.prog u = .ok (.enter 61 args) u := enters_of Tryz.func61 (by kernel_rfl) rfl
    clear h hK hSB hn4 hnm e4 LO hb0 ecut hcap hln hl
    generalize cutAddr (some ⟨b0, o0, none⟩) c 0 1 = AH at *
    generalize b.drop m = t at *
    generalize b.take m = p at *
    generalize c - m = cm at *
    have I32 : Hid ((Tryz.prog.info? 37).map (·.size) = some (encB t).length) := by rw [Hid, encB_lenS, h32.out]; exact infoB32
    have NQ : Hid (∀ u : World, (binOp .neq 37 (.agg (bytesS (sumS kS hS p))) (.agg (encB t).toArray)).run Tryz.prog u = .ok (.bool (!decide (sumS kS hS p = t))) u) := fun u => neqF _ _ (sumS_len _ _ _) h32.out u
    have NG : Hid (∀ (x y : Operand) (u : World), (eqGuard .neq 37 x y (.agg (bytesS (sumS kS hS p))) (.agg (encB t).toArray)).run Tryz.prog u = .ok () u) := fun x y u => by simp [eqGuard, go_sem]
    go_enter Tryz.func30, Tryz.ntmps30
    go_upto_region 4 with ((with_reducible refine wpList_comp ?_ ?_ ?_ (SB.out _) ?_); rfl; rfl; rfl)
    try go_frame
    refine wp_region_Z (S := fun w' => Below w.heap.size w w') (Z := []) mixedS ?_
    have BD : Hid (Below w.heap.size w w.drew) := (Below.refl _ _).drew
    generalize w.drew = wd at *
    simp only [List.size_toArray, List.length_cons, List.length_nil]
    refine zLight (i := 0) rfl (by kernel_rfl) (by kernel_rfl) (by kernel_rfl) (by kernel_rfl) (fun _ _ _ h => h) rfl (fun w' => exMove (v := .slice (some ⟨b0, o0, none⟩) n c) rfl) (fun _ => BD.out) ?_
    simp only [Act.put, List.setIfInBounds_toArray, List.set_cons_zero, List.set_cons_succ]
    refine zLight (i := 1) rfl (by kernel_rfl) (by kernel_rfl) (by kernel_rfl) (by kernel_rfl) (fun _ _ _ h => h) rfl (fun w' => exMove (v := .int .i64 (m : Int)) rfl) (fun _ => BD.out) ?_
    simp only [Act.put, List.setIfInBounds_toArray, List.set_cons_zero, List.set_cons_succ]
    refine zLight (i := 2) rfl (by kernel_rfl) (by kernel_rfl) (by kernel_rfl) (by kernel_rfl) (fun _ _ _ h => h) rfl (fun w' => exSlice_sh (v := .slice AH m c) rfl rfl rfl rfl (CH.out w')) (fun _ => BD.out) ?_
    simp only [Act.put, List.setIfInBounds_toArray, List.set_cons_zero, List.set_cons_succ]
    refine zLight (i := 5) rfl (by kernel_rfl) (by kernel_rfl) (by kernel_rfl) (by kernel_rfl) (fun _ _ _ h => h) rfl (fun w' => exMove (v := .slice (some ⟨b0, o0, none⟩) n c) rfl) (fun _ => BD.out) ?_
    simp only [Act.put, List.setIfInBounds_toArray, List.set_cons_zero, List.set_cons_succ]
    refine zLight (i := 6) rfl (by kernel_rfl) (by kernel_rfl) (by kernel_rfl) (by kernel_rfl) (fun _ _ _ h => h) rfl (fun w' => exMove (v := .int .i64 (m : Int)) rfl) (fun _ => BD.out) ?_
    simp only [Act.put, List.setIfInBounds_toArray, List.set_cons_zero, List.set_cons_succ]
    refine zLight (i := 7) rfl (by kernel_rfl) (by kernel_rfl) (by kernel_rfl) (by kernel_rfl) (fun _ _ _ h => h) rfl (fun w' => exSlice_sh (v := .slice (some ⟨b0, o0 + m * 1, none⟩) 32 cm) rfl rfl rfl rfl (CL.out w')) (fun _ => BD.out) ?_
    simp only [Act.put, List.setIfInBounds_toArray, List.set_cons_zero, List.set_cons_succ]
    refine zLight (i := 8) rfl (by kernel_rfl) (by kernel_rfl) (by kernel_rfl) (by kernel_rfl) (fun _ _ _ h => h) rfl (fun w' => exArr (v := .pointer (some ⟨b0, o0 + m * 1, none⟩)) rfl (arrayAt32 _ _ _ w')) (fun _ => BD.out) ?_
    simp only [Act.put, List.setIfInBounds_toArray, List.set_cons_zero, List.set_cons_succ]
    refine zV (i := 9) rfl (by kernel_rfl) (by kernel_rfl) (by kernel_rfl) (by kernel_rfl) (by kernel_rfl) (fun _ _ _ h => h) rfl (fun w' h => exMid rfl (rangeAt_below RT.out h hbl.out) under32F rfl I32.out) BD.out ?_
    simp only [Act.put, List.setIfInBounds_toArray, List.set_cons_zero, List.set_cons_succ]
    refine wpAnyZ_all (rs := [3]) (by kernel_rfl) (by simp) ?_
    intro i hi
    simp only [List.mem_cons, List.not_mem_nil, or_false] at hi
    subst hi
    refine wpOp_of rfl rfl (wp_litBB (A := AH) (m := m) (c := c) rfl ?_)
    have BL := Lib.hid (BD.out.trans ((below_new wd (.cells #[.slice AH m c] 46)).mono BD.out.size))
    have KL := Lib.hid (Blk.new wd 46 #[.slice AH m c])
    refine ⟨fun _ => BL.out, ?_⟩
    simp only [Act.put, List.setIfInBounds_toArray, List.set_cons_zero, List.set_cons_succ]
    generalize (wd.alloc (.cells #[.slice AH m c] 46)) = we at *
    generalize wd.heap.size = gl at *
    refine wpAnyZ_all (rs := [4]) (by kernel_rfl) (by simp) ?_
    intro i hi
    simp only [List.mem_cons, List.not_mem_nil, or_false] at hi
    subst hi
    refine wpOp_of rfl rfl (wp_called (args := #[.slice (some ⟨gl, 0, none⟩) 1 1]) hcS (by simp only [List.map_toArray, List.map_cons, List.map_nil]; rfl) (sum_any p we gl 1 AH m c (KL.out.cell 0) KL.out.lt (HI.out.ext BL.out) (by omega) (shaK_ext HK.out BL.out) (shaB_ext HS.out BL.out)) ?_)
    rintro _ w3 ⟨rfl, b3⟩
    have B3 := Lib.hid (BL.out.trans (b3.mono BL.out.size))
    refine ⟨_, rfl, fun _ => B3.out, ?_⟩
    simp only [Act.put, List.setIfInBounds_toArray, List.set_cons_zero, List.set_cons_succ]
    refine zLight (i := 10) rfl (by kernel_rfl) (by kernel_rfl) (by kernel_rfl) (by kernel_rfl) (fun _ _ _ h => h) rfl (fun w' => exBin (v := .bool (!decide (sumS kS hS p = t))) rfl rfl (NG.out _ _ w') (NQ.out w')) (fun _ => B3.out) ?_
    simp only [Act.put, List.setIfInBounds_toArray, List.set_cons_zero, List.set_cons_succ]
    refine wpAnyZ_done (by kernel_rfl) ?_ _
    clear BD BL KL RT I32 NQ NG hcS CL
    by_cases hs : sumS kS hS p = t
    · rw [decide_eq_true hs]
      rw [if_neg (by rw [hs]; exact fun e => e rfl)] at E
      replace hs := Lib.hid hs
      simp only [Bool.not_true]
      have H3 := Lib.hid (HI.out.ext B3.out)
      have HR := Lib.hid (read53_any p w3 AH m c H3.out (by rw [hpl.out]; omega))
      go_wp2_with (refine wpList_slB rfl rfl rfl rfl (CH.out _) ?_)
      refine HR.out.mono ?_
      rintro e w4 ⟨b4, A4, m4, c4, rfl, h4⟩
      have B4 := Lib.hid (B3.out.trans (b4.mono B3.out.size))
      clear b4 HR
      obtain ⟨ps, er, hps⟩ : ∃ ps er, readI p = (ps, er) := ⟨_, _, rfl⟩
      have hfew := fun he : er = 0 => HFW.out ps (by rw [hps, he])
      clear HFW
      rw [hps] at h4 E ⊢
      dsimp only at h4 E ⊢
      clear hps
      rcases Nat.eq_zero_or_pos er with h0 | h0
      · subst h0
        rw [if_neg (by simp)] at E
        obtain ⟨rfl, oc⟩ := h4 rfl
        obtain ⟨f1, f2, f3, f4⟩ := hfew rfl
        have OC := Lib.hid oc
        have HP := Lib.hid (plain53_any (c := c4) (PatsIn.at_ oc.pats) f1 f2 f3 f4)
        clear h4 hfew oc f1 f2 f3 f4
        go_wp2_with fail
        refine HP.out.mono ?_
        rintro e w5 ⟨b5, h5⟩
        have O5 := Lib.hid ((OC.out.ext b5).mono B3.out.size)
        have B5w := Lib.hid (B4.out.trans (b5.mono B4.out.size))
        clear b5 HP OC
        rcases h5 with ⟨hok, v7, rfl, o7⟩ | ⟨hno, rfl⟩
        · obtain ⟨A7, c7, rfl, ba7⟩ := own_bytes o7 rfl
          have HOK := Lib.hid hok
          have EI : plainI ps = (imgB ps, 0) := by unfold plainI; rw [if_pos hok]
          rw [EI] at E
          obtain ⟨q, hq⟩ : ∃ q, q = imgB ps := ⟨_, rfl⟩
          rw [← hq] at E ba7 o7
          rw [← hq]
          clear hok EI hq o7
          have B7 := Lib.hid ba7
          go_upto_region 10 with fail
          try go_frame
          have B5 : Hid (Below w5.heap.size w5 w5.drew) := (Below.refl _ _).drew
          have C7 : Hid (∀ w', Below w5.heap.size w5 w' → (convert 46 9 (.slice A7 q.length c7)).run Tryz.prog w' = .ok (.string (bytesOf q)) w') := fun w' h => strB_run (B7.out.ext h).sl rfl
          have C8 : Hid (∀ w', Below w5.heap.size w5 w' → (convert 46 9 (.slice AH m c)).run Tryz.prog w' = .ok (.string (bytesOf p)) w') := fun w' h => strB_run (HI.out.ext (B5w.out.trans (h.mono B5w.out.size))).sl hpl.out
          have NS := Lib.hid (fun u => neqS53 q p u)
          refine wp_region_Z (S := fun w' => Below w5.heap.size w5 w') (Z := []) mixedS ?_
          generalize w5.drew = w6 at *
          simp only [List.size_toArray, List.length_cons, List.length_nil]
          refine zLight (i := 0) rfl (by kernel_rfl) (by kernel_rfl) (by kernel_rfl) (by kernel_rfl) (fun _ _ _ h => h) rfl (fun w' => exMove (v := .int .i64 (0 : Int)) rfl) (fun _ => B5.out) ?_
          simp only [Act.put, List.setIfInBounds_toArray, List.set_cons_zero, List.set_cons_succ]
          refine zLight (i := 1) rfl (by kernel_rfl) (by kernel_rfl) (by kernel_rfl) (by kernel_rfl) (fun _ _ _ h => h) rfl (fun w' => exBin (v := .bool false) rfl rfl (ngI53 _ _ _ _ w') (by simp [go_sem])) (fun _ => B5.out) ?_
          simp only [Act.put, List.setIfInBounds_toArray, List.set_cons_zero, List.set_cons_succ]
          refine zLight (i := 2) rfl (by kernel_rfl) (by kernel_rfl) (by kernel_rfl) (by kernel_rfl) (fun _ _ _ h => h) rfl (fun w' => exMove (v := .bool false) rfl) (fun _ => B5.out) ?_
          simp only [Act.put, List.setIfInBounds_toArray, List.set_cons_zero, List.set_cons_succ]
          refine zLight (i := 3) rfl (by kernel_rfl) (by kernel_rfl) (by kernel_rfl) (by kernel_rfl) (fun _ _ _ h => h) rfl (fun w' => exMove (v := .slice A7 q.length c7) rfl) (fun _ => B5.out) ?_
          simp only [Act.put, List.setIfInBounds_toArray, List.set_cons_zero, List.set_cons_succ]
          refine zV (i := 4) rfl (by kernel_rfl) (by kernel_rfl) (by kernel_rfl) (by kernel_rfl) (by kernel_rfl) (fun _ _ _ h => h) rfl (fun w' h => exConv_sh (v := .string (bytesOf q)) rfl (C7.out w' h)) B5.out ?_
          simp only [Act.put, List.setIfInBounds_toArray, List.set_cons_zero, List.set_cons_succ]
          refine zLight (i := 5) rfl (by kernel_rfl) (by kernel_rfl) (by kernel_rfl) (by kernel_rfl) (fun _ _ _ h => h) rfl (fun w' => exMove (v := .slice (some ⟨b0, o0, none⟩) n c) rfl) (fun _ => B5.out) ?_
          simp only [Act.put, List.setIfInBounds_toArray, List.set_cons_zero, List.set_cons_succ]
          refine zLight (i := 6) rfl (by kernel_rfl) (by kernel_rfl) (by kernel_rfl) (by kernel_rfl) (fun _ _ _ h => h) rfl (fun w' => exMove (v := .int .i64 (m : Int)) rfl) (fun _ => B5.out) ?_
          simp only [Act.put, List.setIfInBounds_toArray, List.set_cons_zero, List.set_cons_succ]
          refine zLight (i := 7) rfl (by kernel_rfl) (by kernel_rfl) (by kernel_rfl) (by kernel_rfl) (fun _ _ _ h => h) rfl (fun w' => exSlice_sh (v := .slice AH m c) rfl rfl rfl rfl (CH.out w')) (fun _ => B5.out) ?_
          simp only [Act.put, List.setIfInBounds_toArray, List.set_cons_zero, List.set_cons_succ]
          refine zV (i := 8) rfl (by kernel_rfl) (by kernel_rfl) (by kernel_rfl) (by kernel_rfl) (by kernel_rfl) (fun _ _ _ h => h) rfl (fun w' h => exConv_sh (v := .string (bytesOf p)) rfl (C8.out w' h)) B5.out ?_
          simp only [Act.put, List.setIfInBounds_toArray, List.set_cons_zero, List.set_cons_succ]
          refine zLight (i := 9) rfl (by kernel_rfl) (by kernel_rfl) (by kernel_rfl) (by kernel_rfl) (fun _ _ _ h => h) rfl (fun w' => exBin (v := .bool (!decide (q = p))) rfl rfl (ngS53 _ _ _ _ w') (NS.out w')) (fun _ => B5.out) ?_
          simp only [Act.put, List.setIfInBounds_toArray, List.set_cons_zero, List.set_cons_succ]
          refine zLight (i := 10) rfl (by kernel_rfl) (by kernel_rfl) (by kernel_rfl) (by kernel_rfl) (fun _ _ _ h => h) rfl (fun w' => exPickF (v := .bool (!decide (q = p))) rfl rfl) (fun _ => B5.out) ?_
          simp only [Act.put, List.setIfInBounds_toArray, List.set_cons_zero, List.set_cons_succ]
          refine wpAnyZ_done (by kernel_rfl) ?_ _
          have B6 := Lib.hid (B5w.out.trans (B5.out.mono B5w.out.size))
          have O6 := Lib.hid (O5.out.ext B5.out)
          clear B5 B5w O5 C7 C8 NS B7
          by_cases hqp : q = p
          · rw [decide_eq_true hqp]
            rw [if_pos (by rw [hqp])] at E
            simp only [Bool.not_true]
            clear hqp
            go_wp2
            refine bodyPost_ret (v := .tuple #[.slice A4 ps.length c4, .int .i64 0]) ?_ rfl ⟨B6.out, .slice A4 ps.length c4, by rw [E.out]; rfl, by rw [E.out]; exact O6.out⟩
            simp [results, Tryz.results30, go_sem]
          · rw [decide_eq_false hqp]
            rw [if_neg (fun e => hqp (congrArg Prod.fst e))] at E
            simp only [Bool.not_false]
            replace hqp := Lib.hid hqp
            go_wp2
            refine bodyPost_ret (v := .tuple #[.slice none 0 0, .int .i64 4]) ?_ rfl ⟨B6.out, .slice none 0 0, by rw [E.out]; rfl, by rw [E.out]; exact OwnC.nil _ _⟩
            simp [results, Tryz.results30, go_sem]
        · have EI : plainI ps = ([], 1) := by unfold plainI; rw [if_neg (by rw [hno]; exact Bool.false_ne_true)]
          rw [EI, if_neg (fun e => by have := congrArg Prod.snd e; cases this)] at E
          clear hno EI
          go_upto_region 10 with fail
          try go_frame
          have B5 : Hid (Below w5.heap.size w5 w5.drew) := (Below.refl _ _).drew
          refine wp_region_Z (S := fun w' => Below w5.heap.size w5 w') (Z := []) mixedS ?_
          generalize w5.drew = w6 at *
          simp only [List.size_toArray, List.length_cons, List.length_nil]
          refine zLight (i := 0) rfl (by kernel_rfl) (by kernel_rfl) (by kernel_rfl) (by kernel_rfl) (fun _ _ _ h => h) rfl (fun w' => exMove (v := .int .i64 (1 : Int)) rfl) (fun _ => B5.out) ?_
          simp only [Act.put, List.setIfInBounds_toArray, List.set_cons_zero, List.set_cons_succ]
          refine zLight (i := 1) rfl (by kernel_rfl) (by kernel_rfl) (by kernel_rfl) (by kernel_rfl) (fun _ _ _ h => h) rfl (fun w' => exBin (v := .bool true) rfl rfl (ngI53 _ _ _ _ w') (by simp [go_sem])) (fun _ => B5.out) ?_
          simp only [Act.put, List.setIfInBounds_toArray, List.set_cons_zero, List.set_cons_succ]
          refine zLight (i := 2) rfl (by kernel_rfl) (by kernel_rfl) (by kernel_rfl) (by kernel_rfl) (fun _ _ _ h => h) rfl (fun w' => exMove (v := .bool true) rfl) (fun _ => B5.out) ?_
          simp only [Act.put, List.setIfInBounds_toArray, List.set_cons_zero, List.set_cons_succ]
          refine zSkip (i := 3) rfl (by kernel_rfl) (by kernel_rfl) (by kernel_rfl) (by kernel_rfl) (by kernel_rfl) (fun _ _ _ h => h) rfl B5.out ?_
          simp only [Act.put, List.setIfInBounds_toArray, List.set_cons_zero, List.set_cons_succ]
          refine zSkip (i := 4) rfl (by kernel_rfl) (by kernel_rfl) (by kernel_rfl) (by kernel_rfl) (by kernel_rfl) (fun _ _ _ h => h) rfl B5.out ?_
          simp only [Act.put, List.setIfInBounds_toArray, List.set_cons_zero, List.set_cons_succ]
          refine zSkip (i := 5) rfl (by kernel_rfl) (by kernel_rfl) (by kernel_rfl) (by kernel_rfl) (by kernel_rfl) (fun _ _ _ h => h) rfl B5.out ?_
          simp only [Act.put, List.setIfInBounds_toArray, List.set_cons_zero, List.set_cons_succ]
          refine zSkip (i := 6) rfl (by kernel_rfl) (by kernel_rfl) (by kernel_rfl) (by kernel_rfl) (by kernel_rfl) (fun _ _ _ h => h) rfl B5.out ?_
          simp only [Act.put, List.setIfInBounds_toArray, List.set_cons_zero, List.set_cons_succ]
          refine zSkip (i := 7) rfl (by kernel_rfl) (by kernel_rfl) (by kernel_rfl) (by kernel_rfl) (by kernel_rfl) (fun _ _ _ h => h) rfl B5.out ?_
          simp only [Act.put, List.setIfInBounds_toArray, List.set_cons_zero, List.set_cons_succ]
          refine zSkip (i := 8) rfl (by kernel_rfl) (by kernel_rfl) (by kernel_rfl) (by kernel_rfl) (by kernel_rfl) (fun _ _ _ h => h) rfl B5.out ?_
          simp only [Act.put, List.setIfInBounds_toArray, List.set_cons_zero, List.set_cons_succ]
          refine zSkip (i := 9) rfl (by kernel_rfl) (by kernel_rfl) (by kernel_rfl) (by kernel_rfl) (by kernel_rfl) (fun _ _ _ h => h) rfl B5.out ?_
          simp only [Act.put, List.setIfInBounds_toArray, List.set_cons_zero, List.set_cons_succ]
          refine zLight (i := 10) rfl (by kernel_rfl) (by kernel_rfl) (by kernel_rfl) (by kernel_rfl) (fun _ _ _ h => h) rfl (fun w' => exPickT (v := .bool true) rfl rfl) (fun _ => B5.out) ?_
          simp only [Act.put, List.setIfInBounds_toArray, List.set_cons_zero, List.set_cons_succ]
          refine wpAnyZ_done (by kernel_rfl) ?_ _
          have B6 := Lib.hid (B5w.out.trans (B5.out.mono B5w.out.size))
          clear B5 B5w O5
          go_wp2
          refine bodyPost_ret (v := .tuple #[.slice none 0 0, .int .i64 4]) ?_ rfl ⟨B6.out, .slice none 0 0, by rw [E.out]; rfl, by rw [E.out]; exact OwnC.nil _ _⟩
          simp [results, Tryz.results30, go_sem]
      · have ze : ((er : Int) != 0) = true := by rw [bne_iff_ne]; omega
        rw [if_pos (by omega)] at E
        clear h4 hfew h0
        go_wp2
        refine bodyPost_ret (v := .tuple #[.slice none 0 0, .int .i64 (er : Int)]) ?_ rfl ⟨B4.out, .slice none 0 0, by rw [E.out], by rw [E.out]; exact OwnC.nil _ _⟩
        simp [results, Tryz.results30, go_sem]
    · rw [decide_eq_false hs]
      rw [if_pos hs] at E
      simp only [Bool.not_false]
      replace hs := Lib.hid hs
      go_wp2
      refine bodyPost_ret (v := .tuple #[.slice none 0 0, .int .i64 5]) ?_ rfl ⟨B3.out, .slice none 0 0, by rw [E.out]; rfl, by rw [E.out]; exact OwnC.nil _ _⟩
      simp [results, Tryz.results30, go_sem]
theorem dec53_any (b : List UInt8) (w : World) (A : Option Addr) (n c : Nat) (h : BytesAt w A n c b) (hl : b.length ≤ 36000) (hK : ShaK w) (hSB : ShaB w) : Calls Tryz.prog 30 #[.slice A n c] w (DecIRet w b) :=
  dec53_wide b w A n c h (by omega) (fun _ hh => read_few hh (by unfold cutI; rw [List.length_take]; omega)) hK hSB
end Go.Proofs.YtihggkmjalofiaaGreatDoor

/- The chapter's example of images: walked; few patches make a short image. -/
namespace Go.Proofs.YtihggkmjalofiaaGreatDoor
open Go.RowKit

theorem patBytes_60 {p : PatV} (h : patB p = true) (h60 : p.2.2.length ≤ 60) : (patBytes p).length ≤ 4330 := by
  have hs : (vbytes p.1.2.val).length ≤ 3 := vbytes_len 2 _ (by have := p.1.2.isLt; omega)
  have hn : (vbytes p.2.2.length).length ≤ 2 := vbytes_len 1 _ (by omega)
  have h1 := ops_len p.2.2 (pat_plain h)
  unfold patBytes
  simp only [List.length_append, List.length_cons] at h1 ⊢
  omega
theorem imgB_few {l : List PatV} {k : Nat} (h : IdxOk l) (hl : l.length ≤ k) (hk : k ≤ 12) (h60 : ∀ p ∈ l, p.2.2.length ≤ 60) : (imgB l).length ≤ 1 + 4333 * k := by
  have h1 : ∀ ps : List PatV, (∀ p ∈ ps, patB p = true ∧ p.2.2.length ≤ 60) → (ps.flatMap patText).length ≤ 4333 * ps.length := by
    intro ps
    induction ps with
    | nil => intro _; simp
    | cons p ps ih =>
      intro hg
      have a := ih fun q hq => hg q (by simp [hq])
      have c := patBytes_60 (hg p (by simp)).1 (hg p (by simp)).2
      have d : (vbytes (patBytes p).length).length ≤ 3 := vbytes_len 2 _ (by omega)
      rw [List.flatMap_cons, List.length_append, List.length_cons]
      unfold patText at *
      rw [List.length_append]
      omega
  have h2 := h1 (ordP l) fun p hp => by
    have hm := (ordP_perm h).mem_iff.1 hp
    exact ⟨h.good p hm, h60 p hm⟩
  rw [ordP_len h] at h2
  have h3 : (vbytes l.length).length ≤ 1 := vbytes_len 0 _ (by omega)
  have h4 : 4333 * l.length ≤ 4333 * k := Nat.mul_le_mul_left _ hl
  unfold imgB
  rw [List.length_append]
  omega
theorem imgS_len (l : List PatV) : (imgS l).length = (imgB l).length + 32 := by unfold imgS; rw [List.length_append, sumS_len]
theorem imgB_pos (l : List PatV) : 1 ≤ (imgB l).length := by
  have := vbytes_pos l.length
  unfold imgB
  rw [List.length_append]
  omega
theorem imgB_nil : imgB [] = [0] := by
  have h1 : ordP [] = [] := by have := ordP_len IdxOk.nil; exact List.length_eq_zero_iff.1 this
  unfold imgB
  rw [h1]
  show vbytes 0 ++ [] = [0]
  rw [vbytes_low (by omega)]
  rfl
theorem pats_nil (w : World) : PatsAt w none 0 [] := ⟨rfl, [], ⟨rfl, fun k r p h => by cases h⟩, rfl, fun h => absurd h (by decide)⟩
theorem depsN_few {l : List PatV} {k : Nat} (hl : l.length ≤ k) (hk : k ≤ 20) (h : ∀ p ∈ l, p.2.1.length ≤ 100) : depsN l ≤ 900000 := by
  have h1 := depsN_le h
  have h2 : l.length * 100 ≤ 20 * 100 := Nat.mul_le_mul_right _ (by omega)
  omega
/-- bytes in a row of one's own, one of them turned -/
theorem bytes_turn {w : World} {base N : Nat} {v : Value} {l : List UInt8} (h : w.ownsRow base 5 1 v N (encB l)) (hN : 0 < N) (hl : l.length = N) {k : Nat} (hk : k < N) (y : UInt8) :
    ∃ g c, v = .slice (some ⟨g, 0, none⟩) N c ∧ base ≤ g ∧ g < w.heap.size ∧ w.cell? ⟨g, k, none⟩ = some (.int .u8 (((l.getD k 0).toNat : Nat) : Int)) ∧ w.frozen? ⟨g, k, none⟩ = false ∧ BytesAt (w.setCell ⟨g, k, none⟩ (.int .u8 ((y.toNat : Nat) : Int))) (some ⟨g, 0, none⟩) N c (l.set k y) := by
  obtain ⟨g, c, cur, e, hb, hc, hB, hcur⟩ := own_blk_sh h hN
  obtain ⟨A', c', e', ba⟩ := own_bytes h hl
  rw [e] at e'
  injection e' with e1 _ e2
  subst e1 e2
  have hkl : l[k]? = some (l.getD k 0) := by rw [List.getD_eq_getElem?_getD, List.getElem?_eq_getElem (by omega)]; rfl
  refine ⟨g, c, e, hb, hB.lt, ?_, hB.fr k, ?_⟩
  · rw [hB.cell k]; exact hcur k _ hkl
  · have hB2 : Blk (w.setCell ⟨g, k, none⟩ (.int .u8 ((y.toNat : Nat) : Int))) g 5 (cur.setIfInBounds k (.int .u8 ((y.toNat : Nat) : Int))) := by
      have := hB.set_ k (.int .u8 ((y.toNat : Nat) : Int))
      simpa using this
    refine ⟨by rw [List.length_set]; exact hl, ba.cap, ba.big, by rw [encB_lenS, List.length_set, hl, Nat.mul_one], fun _ => ⟨g, 0, rfl, hB2.lt, fun j hj => ?_⟩⟩
    rw [Nat.mul_one] at hj
    rw [Nat.zero_add, hB2.cell j, encB_at, Array.getElem?_setIfInBounds, List.getElem?_set]
    by_cases hkj : k = j
    · subst hkj
      have hsz : k < cur.size := (Array.getElem?_eq_some_iff.1 (hcur k _ hkl)).1
      rw [if_pos rfl, if_pos hsz, if_pos rfl, if_pos (by omega)]
      rfl
    · rw [if_neg hkj, if_neg hkj]
      have hj2 : l[j]? = some (l[j]'(by omega)) := List.getElem?_eq_getElem (by omega)
      rw [hcur j _ hj2, hj2]
      rfl
set_option maxRecDepth 100000 in
set_option maxHeartbeats 4000000 in
theorem works53 (w : World) (hK : ShaK w) (hB : ShaB w) : Calls Tryz.prog 28 #[] w (RetB w (.bool true)) := by
  have HE := Lib.hid (enc53_any (c := 0) (pats_nil w) (by omega) (by simp [depsN]) (fun p h => by cases h) (fun _ => by rw [imgB_nil]; simp) hK hB)
  have HK := Lib.hid hK
  have HB := Lib.hid hB
  clear hK hB
  go_enter Tryz.func28, Tryz.ntmps28
  go_wp2_with fail
  refine HE.out.mono ?_
  rintro e w2 ⟨b2, h2⟩
  have hno : okI [] = true := okI_iff.2 IdxOk.nil
  rcases h2 with ⟨_, v, rfl, o2⟩ | ⟨h3, _⟩
  · have B2 := Lib.hid b2
    have HK2 := Lib.hid (shaK_ext HK.out b2)
    have HB2 := Lib.hid (shaB_ext HB.out b2)
    have HDI := dec_img IdxOk.nil (by simp)
    have hor : ordP [] = [] := List.length_eq_zero_iff.1 (ordP_len IdxOk.nil)
    rw [hor] at HDI
    have hl33 : (imgS []).length = 33 := by rw [imgS_len, imgB_nil]; rfl
    have h0 : (imgS [])[0]? = some 0 := by unfold imgS; rw [imgB_nil]; rfl
    obtain ⟨b, hb⟩ : ∃ b, b = imgS [] := ⟨_, rfl⟩
    rw [← hb] at o2 HDI hl33 h0
    clear b2 hno HE HK HB hor hb
    obtain ⟨A2, c2, rfl, ba⟩ := own_bytes o2 rfl
    rw [hl33] at ba ⊢
    have BA := Lib.hid ba
    have HDI := Lib.hid HDI
    have HD := Lib.hid (dec53_any b w2 A2 33 c2 ba (by omega) HK2.out HB2.out)
    clear o2 ba
    go_wp2_with fail
    refine HD.out.mono ?_
    rintro e w3 ⟨b3, v3, rfl, oc⟩
    rw [HDI.out] at oc ⊢
    obtain ⟨A3, c3, rfl, _⟩ := oc.slice
    have B3 := Lib.hid (B2.out.trans (b3.mono B2.out.size))
    obtain ⟨b', o', x, rfl, _, hx, hc⟩ := (BA.out.ext b3).at_ (k := 0) (by omega)
    rw [h0] at hx
    obtain rfl := Option.some.inj hx
    clear b3 oc HD hx h0 BA
    have hc0 : w3.cell? ⟨b', o', none⟩ = some (.int .u8 0) := hc
    clear hc
    go_wp2
    go_ret
    exact ⟨rfl, B3.out⟩
  · rw [hno] at h3; cases h3
end Go.Proofs.YtihggkmjalofiaaGreatDoor
