/- An image that was spoilt is refused, or is one of its own: the statement walked. -/
import Derived.Test.YtihggkmjalofiaaGreatDoorImgg
import Derived.Test.YtihggkmjalofiaaGreatDoorPcds
import Derived.Test.YtihggkmjalofiaaGreatDoorGras
namespace Go.Proofs.YtihggkmjalofiaaGreatDoor
open Go.RowKit

theorem decImg_read {b : List UInt8} {m : List PatV} (h : decImg b = (m, 0)) : readI (cutI b) = (m, 0) := by
  have key : ∀ (s1 s2 c : List UInt8) (r : List PatV × Nat) (pl : List UInt8 × Nat), (if s1 ≠ s2 then (([], 5) : List PatV × Nat) else if r.2 ≠ 0 then ([], r.2) else if pl = (c, 0) then (r.1, 0) else ([], 4)) = (m, 0) → r = (m, 0) := by
    intro s1 s2 c r pl h
    by_cases h2 : s1 ≠ s2
    · rw [if_pos h2] at h
      cases h
    · rw [if_neg h2] at h
      by_cases h3 : r.2 ≠ 0
      · rw [if_pos h3] at h
        exact absurd (congrArg Prod.snd h) h3
      · rw [if_neg h3] at h
        by_cases h4 : pl = (c, 0)
        · rw [if_pos h4] at h
          have e1 : r.1 = m := congrArg (fun x : List PatV × Nat => x.1) h
          exact Prod.ext e1 (Classical.not_not.1 h3)
        · rw [if_neg h4] at h
          cases h
  unfold decImg at h
  by_cases h1 : b.length < 32
  · rw [if_pos h1] at h
    cases h
  · rw [if_neg h1] at h
    exact key _ _ _ _ _ h
theorem cutI_len (b : List UInt8) : (cutI b).length ≤ b.length := by unfold cutI; rw [List.length_take]; omega
theorem xor8v (x y : UInt8) (w : World) : (binOp .xor 5 (.int .u8 ((x.toNat : Nat) : Int)) (.int .u8 ((y.toNat : Nat) : Int))).run Tryz.prog w = .ok (.int .u8 (((x ^^^ y).toNat : Nat) : Int)) w := by
  rw [UInt8.toNat_xor, ← u8_xor_nat _ _ x.toNat_lt y.toNat_lt]
  simp [go_sem]
def spotC (a : Nat) (y : UInt8) (cut : Bool) : Array Value := #[.int .u16 (a : Int), .int .u8 ((y.toNat : Nat) : Int), .bool cut]
set_option maxRecDepth 100000 in
set_option maxHeartbeats 16000000 in
theorem imageSpoilt_walk0 (w : World) (l : List PatV) (A : Option Addr) (n c : Nat) (hm : n ≤ maxLen) (h : PatsAt w A n l) (a : Nat) (ha : a < 65536) (y : UInt8) (cut : Bool) (hT : ShaK w ∧ ShaB w) :
    Calls Tryz.prog 5 #[.slice A n c, .agg (spotC a y cut)] w (RetB w (.bool true)) := by
  have HW : Hid (∀ u : World, Below w.heap.size w u → Calls Tryz.prog 28 #[] u (RetB u (.bool true))) := fun u hu => works53 u (shaK_ext hT.1 hu) (shaB_ext hT.2 hu)
  have HSK : Hid (∀ u : World, Below w.heap.size w u → ShaK u) := fun u hu => shaK_ext hT.1 hu
  have HSB : Hid (∀ u : World, Below w.heap.size w u → ShaB u) := fun u hu => shaB_ext hT.2 hu
  have H0 := Lib.hid h
  have KB : Hid (Blk (w.alloc (.cells (spotC a y cut) 57)) w.heap.size 57 (spotC a y cut)) := Blk.new _ _ _
  have B0 : Hid (Below w.heap.size w (w.alloc (.cells (spotC a y cut) 57))) := below_new _ _
  clear h hT
  go_enter Tryz.func5, Tryz.ntmps5
  go_upto_region 1 with fail
  generalize (w.alloc (.cells (spotC a y cut) 57)) = w2 at *
  obtain ⟨gp, hgp⟩ : ∃ gp, gp = w.heap.size := ⟨_, rfl⟩
  rw [← hgp] at KB ⊢
  clear hgp
  have q0 : ∀ z : Ext w2, z.w.cell? ⟨gp, 0, none⟩ = some (.int .u16 (a : Int)) := fun z => (KB.out.ext z.h).cell 0
  have q1 : ∀ z : Ext w2, z.w.cell? ⟨gp, 1, none⟩ = some (.int .u8 ((y.toNat : Nat) : Int)) := fun z => (KB.out.ext z.h).cell 1
  have q2 : ∀ z : Ext w2, z.w.cell? ⟨gp, 2, none⟩ = some (.bool cut) := fun z => (KB.out.ext z.h).cell 2
  try go_frame
  refine wp_region_ext mixedS (by kernel_rfl) ?_
  repeat (first | go_big_quiet_step (fail))
  refine wpQuiet_nil ?_
  rintro _ ⟨z, rfl⟩
  have B2 := Lib.hid (B0.out.trans (z.h.mono B0.out.size))
  clear q0 q1 q2 KB B0
  generalize z.w = w3 at *
  clear z
  have HF := Lib.hid (few20_any l w3 A n c 8 (H0.out.ext B2.out) hm)
  cases hf : fewsB l 8
  · rw [fewsN_false hf] at HF
    go_wp2_with fail
    refine HF.out.mono ?_
    rintro e w4 ⟨rfl, b4⟩
    have B4 := Lib.hid (B2.out.trans (b4.mono B2.out.size))
    clear b4 HF
    go_wp2_with fail
    refine (HW.out _ B4.out).mono ?_
    rintro e w5 ⟨rfl, b5⟩
    have B5 := Lib.hid (B4.out.trans (b5.mono B4.out.size))
    clear b5
    go_wp2
    go_ret
    exact ⟨rfl, B5.out⟩
  · rw [fewsN_true hf] at HF
    obtain ⟨f1, f2⟩ := fews_at20 hf
    have hln := H0.out.len
    have hl8 : l.length ≤ 8 := by omega
    have hdn := depsN_few (k := 8) hl8 (by omega) fun p hp => (f2 p hp).1
    have hib := fun ho : okI l = true => imgB_few (k := 8) (okI_iff.1 ho) hl8 (by omega) fun p hp => (f2 p hp).2
    go_wp2_with fail
    refine HF.out.mono ?_
    rintro e w4 ⟨rfl, b4⟩
    have B4 := Lib.hid (B2.out.trans (b4.mono B2.out.size))
    have HE := Lib.hid (enc53_any (c := c) (H0.out.ext B4.out) (by omega) hdn (fun p hp => by have := f2 p hp; omega) (fun ho => by have := hib ho; omega) (HSK.out _ B4.out) (HSB.out _ B4.out))
    replace hib := Lib.hid hib
    clear b4 HF hf f1 f2 hdn B2 H0
    go_wp2_with fail
    refine HE.out.mono ?_
    rintro e w5 ⟨b5, h5⟩
    have B5 := Lib.hid (B4.out.trans (b5.mono B4.out.size))
    clear HE
    rcases h5 with ⟨hok, v, rfl, o5⟩ | ⟨hno, rfl⟩
    · have hIx := okI_iff.1 hok
      have hbl := hib.out hok
      have hbp := imgB_pos l
      have hsl := imgS_len l
      have HDI := dec_img hIx (by omega)
      obtain ⟨L, hL⟩ : ∃ L, L = imgS l := ⟨_, rfl⟩
      rw [← hL] at o5 hsl HDI
      obtain ⟨N, hN⟩ : ∃ N, N = L.length := ⟨_, rfl⟩
      rw [← hN] at o5 hsl
      have hN1 : 33 ≤ N := by omega
      have hN2 : N ≤ 36000 := by omega
      clear b5 hbl hbp hsl hok hib hIx hL
      obtain ⟨A5, c5, rfl, ba5⟩ := own_bytes o5 hN.symm
      have BA := Lib.hid ba5
      have HDI := Lib.hid HDI
      have hNL := Lib.hid hN
      clear o5 ba5 hN
      have z33 : ¬ (N : Int) < 33 := by omega
      obtain ⟨k, hkE⟩ : ∃ k, k = a % N := ⟨_, rfl⟩
      have hk : k < N := by rw [hkE]; exact Nat.mod_lt _ (by omega)
      have hw5 : Int.tmod (a : Int) (N : Int) = (k : Int) := by rw [Int.tmod_eq_emod_of_nonneg (by omega), hkE]; exact (Int.natCast_emod _ _).symm
      have hw6 : (a : Int) % (N : Int) = (k : Int) := by rw [hkE]; exact (Int.natCast_emod _ _).symm
      have hz0 : ((N : Int) == 0) = false := by rw [beq_eq_false_iff_ne]; omega
      have hk0 : (0 : Int) ≤ (k : Int) := by omega
      have hkn : (k : Int) < (N : Int) := by omega
      clear hkE
      have N0 : Hid ((w5.alloc (.cells #[] 5)).ownsRow w5.heap.size 5 1 (.slice (some ⟨w5.heap.size, 0, none⟩) 0 0) 0 (encB [])) := ⟨rfl, .inr ⟨w5.heap.size, 0, #[], rfl, Nat.le_refl _, heap_alloc_new w5 _, Nat.le_refl _, by simp [maxLen], rfl, rfl⟩⟩
      have BN : Hid (Below w5.heap.size w5 (w5.alloc (.cells #[] 5))) := below_new _ _
      have SB5 := Lib.hid (BA.out.ext BN.out).sl
      have hbs := BN.out.size
      go_upto_region 9 with fail
      go_upto_region 10 with (first
        | (refine wpList_built0 byteSl ?_)
        | (at_builtin; refine wpList_cat byteSl N0.out SB5.out (encB_one _) hbs (by omega) (by unfold maxLen; omega) (by rfl) (by rfl) ?_; intro v6 w6 own6 bel6))
      rw [Nat.zero_add] at own6
      have own6 : w6.ownsRow w5.heap.size 5 1 v6 N (encB L) := own6
      have B6x : Hid (Below w5.heap.size w5 w6) := BN.out.trans bel6
      obtain ⟨g, c6, rfl, hg, hgl, hcl, hfr, bt⟩ := bytes_turn own6 (by omega) hNL.out.symm hk (L.getD k 0 ^^^ y)
      generalize L.getD k 0 = x0 at *
      have hxo : bits .xor .u8 ((x0.toNat : Nat) : Int) ((y.toNat : Nat) : Int) = (((x0 ^^^ y).toNat : Nat) : Int) := by rw [UInt8.toNat_xor]; exact u8_xor_nat _ _ x0.toNat_lt y.toNat_lt
      have XR := Lib.hid (fun u => xor8v x0 y u)
      have ST := Lib.hid (storeB_sh g k (x0 ^^^ y) w6 hcl hfr)
      have BC := Lib.hid bt
      have BS : Hid (Below w5.heap.size w5 (w6.setCell ⟨g, k, none⟩ (.int .u8 (((x0 ^^^ y).toNat : Nat) : Int)))) := B6x.out.setCell (p := ⟨g, k, none⟩) hg _
      have BA7 := Lib.hid (BA.out.ext BS.out)
      have B7 := Lib.hid (B5.out.trans (BS.out.mono B5.out.size))
      clear own6 bel6 N0 SB5 hbs BN BA bt B6x hg hgl B5 BS
      obtain ⟨L1, hL1⟩ : ∃ L1, L1 = L.set k (x0 ^^^ y) := ⟨_, rfl⟩
      rw [← hL1] at BC
      clear hL1
      generalize hxy : (((x0 ^^^ y).toNat : Nat) : Int) = xy at *
      replace hxy := Lib.hid hxy
      go_upto_region 11 with (first
        | ((with_reducible refine wpList_comp ?_ ?_ ?_ (XR.out _) ?_); rfl; rfl; rfl)
        | ((with_reducible refine wpList_st ?_ ?_ ST.out ?_); rfl; rfl))
      generalize (w6.setCell ⟨g, k, none⟩ (.int .u8 xy)) = w7 at *
      clear ST XR hcl hfr hxo hxy
      cases cut
      · go_upto_region 13 with fail
        have HD := Lib.hid (dec53_any L1 w7 (some ⟨g, 0, none⟩) N c6 BC.out (by have := BC.out.len; omega) (HSK.out _ B7.out) (HSB.out _ B7.out))
        go_wp2_with fail
        refine HD.out.mono ?_
        rintro e w8 ⟨b8, v8, rfl, oc⟩
        have B8 := Lib.hid (B7.out.trans (b8.mono B7.out.size))
        have BC8 := Lib.hid (BC.out.ext b8)
        have BA8 := Lib.hid (BA7.out.ext b8)
        obtain ⟨ms, er, hdm⟩ : ∃ ms er, decImg L1 = (ms, er) := ⟨_, _, rfl⟩
        rw [hdm] at oc ⊢
        dsimp only at oc ⊢
        obtain ⟨A8, c8, rfl, _⟩ := oc.slice
        clear b8 HD BC BA7 B7
        rcases Nat.eq_zero_or_pos er with h0 | h0
        · subst h0
          obtain ⟨hIm, hSm⟩ := img_dec hdm
          have hfw := read_few (decImg_read hdm) (by have := cutI_len L1; have := BC8.out.len; omega)
          have HE2 := Lib.hid (enc53_any (c := c8) (PatsIn.at_ oc.pats) hfw.1 hfw.2.1 hfw.2.2.1 hfw.2.2.2 (HSK.out _ B8.out) (HSB.out _ B8.out))
          have HOKm := Lib.hid (okI_iff.2 hIm)
          replace hSm := Lib.hid hSm
          clear oc hfw hIm hdm HDI BA8
          go_wp2_with fail
          refine HE2.out.mono ?_
          rintro e w9 ⟨b9, h9⟩
          rcases h9 with ⟨_, v9, rfl, o9⟩ | ⟨hno, _⟩
          · rw [hSm.out] at o9
            obtain ⟨A9, c9, rfl, ba9⟩ := own_bytes o9 rfl
            have B9 := Lib.hid (B8.out.trans (b9.mono B8.out.size))
            have BC9 := BC8.out.ext b9
            obtain ⟨S, hS⟩ : ∃ S, S = bytesOf L1 := ⟨_, rfl⟩
            obtain ⟨n9, hn9⟩ : ∃ n9, n9 = (L1).length := ⟨_, rfl⟩
            rw [← hn9] at ba9 ⊢
            have CV1 : Hid ((convert 46 9 (.slice A9 n9 c9)).run Tryz.prog w9 = .ok (.string S) w9) := by rw [Hid, hS]; exact strB_run ba9.sl ba9.len
            have CV2 : Hid ((convert 46 9 (.slice (some ⟨g, 0, none⟩) N c6)).run Tryz.prog w9 = .ok (.string S) w9) := by rw [Hid, hS]; exact strB_run BC9.sl BC9.len
            clear o9 ba9 b9 HE2 BC9 BC8 hS hn9
            go_wp2_with (first
              | (refine wpList_convG (by kernel_rfl) _ _ _ (by rfl) (by rfl) CV1.out ?_)
              | (refine wpList_convG (by kernel_rfl) _ _ _ (by rfl) (by rfl) CV2.out ?_))
            refine (HW.out _ B9.out).mono ?_
            rintro e w10 ⟨rfl, b10⟩
            have B10 := Lib.hid (B9.out.trans (b10.mono B9.out.size))
            clear b10
            go_wp2
            go_ret
            exact ⟨rfl, B10.out⟩
          · rw [HOKm.out] at hno; cases hno
        · have ze : ((er : Int) != 0) = true := by rw [bne_iff_ne]; omega
          have hme : ms = [] := by
            have h1 := decImg_none (b := L1) (by rw [hdm]; show er ≠ 0; omega)
            rw [hdm] at h1
            exact h1
          have hne : L1 ≠ L := fun e => by
            have h1 := HDI.out
            rw [← e, hdm] at h1
            have h2 := congrArg Prod.snd h1
            dsimp only at h2
            omega
          subst hme
          obtain ⟨S1, hS1⟩ : ∃ S, S = bytesOf L1 := ⟨_, rfl⟩
          obtain ⟨S2, hS2⟩ : ∃ S, S = bytesOf L := ⟨_, rfl⟩
          have hsn : (S1.toList == S2.toList) = false := str_ne5 (by rw [hS1, hS2]; exact fun e => hne (bytesOf_inj.1 e))
          have CV1 : Hid ((convert 46 9 (.slice (some ⟨g, 0, none⟩) N c6)).run Tryz.prog w8 = .ok (.string S1) w8) := by rw [Hid, hS1]; exact strB_run BC8.out.sl BC8.out.len
          have CV2 : Hid ((convert 46 9 (.slice A5 N c5)).run Tryz.prog w8 = .ok (.string S2) w8) := by rw [Hid, hS2]; exact strB_run BA8.out.sl BA8.out.len
          replace h0 := Lib.hid h0
          clear oc hdm hne hS1 hS2 HDI BC8 BA8
          go_wp2_with (first
            | (refine wpList_convG (by kernel_rfl) _ _ _ (by rfl) (by rfl) CV1.out ?_)
            | (refine wpList_convG (by kernel_rfl) _ _ _ (by rfl) (by rfl) CV2.out ?_))
          refine (HW.out _ B8.out).mono ?_
          rintro e w10 ⟨rfl, b10⟩
          have B10 := Lib.hid (B8.out.trans (b10.mono B8.out.size))
          clear b10
          go_wp2
          go_ret
          exact ⟨rfl, B10.out⟩
      · have hcap := BC.out.cap
        have CH := Lib.hid (fun u => run_slice_high byteSl (A := some ⟨g, 0, none⟩) (n := N) (c := c6) (k := k) (by omega) u)
        have BT := Lib.hid (BC.out.top (k := k) (by omega))
        generalize cutAddr (some ⟨g, 0, none⟩) c6 0 1 = AC at *
        generalize L1.take k = L2 at *
        clear BC
        have BC := BT
        clear BT
        go_upto_region 13 with (first
          | ((with_reducible refine wpList_slB ?_ ?_ ?_ ?_ (CH.out _) ?_); rfl; rfl; rfl; rfl))
        clear CH
        have HD := Lib.hid (dec53_any L2 w7 AC k c6 BC.out (by have := BC.out.len; omega) (HSK.out _ B7.out) (HSB.out _ B7.out))
        go_wp2_with fail
        refine HD.out.mono ?_
        rintro e w8 ⟨b8, v8, rfl, oc⟩
        have B8 := Lib.hid (B7.out.trans (b8.mono B7.out.size))
        have BC8 := Lib.hid (BC.out.ext b8)
        have BA8 := Lib.hid (BA7.out.ext b8)
        obtain ⟨ms, er, hdm⟩ : ∃ ms er, decImg L2 = (ms, er) := ⟨_, _, rfl⟩
        rw [hdm] at oc ⊢
        dsimp only at oc ⊢
        obtain ⟨A8, c8, rfl, _⟩ := oc.slice
        clear b8 HD BC BA7 B7
        rcases Nat.eq_zero_or_pos er with h0 | h0
        · subst h0
          obtain ⟨hIm, hSm⟩ := img_dec hdm
          have hfw := read_few (decImg_read hdm) (by have := cutI_len L2; have := BC8.out.len; omega)
          have HE2 := Lib.hid (enc53_any (c := c8) (PatsIn.at_ oc.pats) hfw.1 hfw.2.1 hfw.2.2.1 hfw.2.2.2 (HSK.out _ B8.out) (HSB.out _ B8.out))
          have HOKm := Lib.hid (okI_iff.2 hIm)
          replace hSm := Lib.hid hSm
          clear oc hfw hIm hdm HDI BA8
          go_wp2_with fail
          refine HE2.out.mono ?_
          rintro e w9 ⟨b9, h9⟩
          rcases h9 with ⟨_, v9, rfl, o9⟩ | ⟨hno, _⟩
          · rw [hSm.out] at o9
            obtain ⟨A9, c9, rfl, ba9⟩ := own_bytes o9 rfl
            have B9 := Lib.hid (B8.out.trans (b9.mono B8.out.size))
            have BC9 := BC8.out.ext b9
            obtain ⟨S, hS⟩ : ∃ S, S = bytesOf L2 := ⟨_, rfl⟩
            obtain ⟨n9, hn9⟩ : ∃ n9, n9 = (L2).length := ⟨_, rfl⟩
            rw [← hn9] at ba9 ⊢
            have CV1 : Hid ((convert 46 9 (.slice A9 n9 c9)).run Tryz.prog w9 = .ok (.string S) w9) := by rw [Hid, hS]; exact strB_run ba9.sl ba9.len
            have CV2 : Hid ((convert 46 9 (.slice AC k c6)).run Tryz.prog w9 = .ok (.string S) w9) := by rw [Hid, hS]; exact strB_run BC9.sl BC9.len
            clear o9 ba9 b9 HE2 BC9 BC8 hS hn9
            go_wp2_with (first
              | (refine wpList_convG (by kernel_rfl) _ _ _ (by rfl) (by rfl) CV1.out ?_)
              | (refine wpList_convG (by kernel_rfl) _ _ _ (by rfl) (by rfl) CV2.out ?_))
            refine (HW.out _ B9.out).mono ?_
            rintro e w10 ⟨rfl, b10⟩
            have B10 := Lib.hid (B9.out.trans (b10.mono B9.out.size))
            clear b10
            go_wp2
            go_ret
            exact ⟨rfl, B10.out⟩
          · rw [HOKm.out] at hno; cases hno
        · have ze : ((er : Int) != 0) = true := by rw [bne_iff_ne]; omega
          have hme : ms = [] := by
            have h1 := decImg_none (b := L2) (by rw [hdm]; show er ≠ 0; omega)
            rw [hdm] at h1
            exact h1
          have hne : L2 ≠ L := fun e => by
            have h1 := HDI.out
            rw [← e, hdm] at h1
            have h2 := congrArg Prod.snd h1
            dsimp only at h2
            omega
          subst hme
          obtain ⟨S1, hS1⟩ : ∃ S, S = bytesOf L2 := ⟨_, rfl⟩
          obtain ⟨S2, hS2⟩ : ∃ S, S = bytesOf L := ⟨_, rfl⟩
          have hsn : (S1.toList == S2.toList) = false := str_ne5 (by rw [hS1, hS2]; exact fun e => hne (bytesOf_inj.1 e))
          have CV1 : Hid ((convert 46 9 (.slice AC k c6)).run Tryz.prog w8 = .ok (.string S1) w8) := by rw [Hid, hS1]; exact strB_run BC8.out.sl BC8.out.len
          have CV2 : Hid ((convert 46 9 (.slice A5 N c5)).run Tryz.prog w8 = .ok (.string S2) w8) := by rw [Hid, hS2]; exact strB_run BA8.out.sl BA8.out.len
          replace h0 := Lib.hid h0
          clear oc hdm hne hS1 hS2 HDI BC8 BA8
          go_wp2_with (first
            | (refine wpList_convG (by kernel_rfl) _ _ _ (by rfl) (by rfl) CV1.out ?_)
            | (refine wpList_convG (by kernel_rfl) _ _ _ (by rfl) (by rfl) CV2.out ?_))
          refine (HW.out _ B8.out).mono ?_
          rintro e w10 ⟨rfl, b10⟩
          have B10 := Lib.hid (B8.out.trans (b10.mono B8.out.size))
          clear b10
          go_wp2
          go_ret
          exact ⟨rfl, B10.out⟩
    · clear hno
      go_wp2_with fail
      refine (HW.out _ B5.out).mono ?_
      rintro e w6 ⟨rfl, b6⟩
      have B6 := Lib.hid (B5.out.trans (b6.mono B5.out.size))
      clear b6
      go_wp2
      go_ret
      exact ⟨rfl, B6.out⟩
theorem spot_flat : ∀ {cs : List Value}, FlatOk [.int .u16, .int .u8, .bool] cs → ∃ (a : Nat) (y : UInt8) (cut : Bool), a < 65536 ∧ cs.toArray = spotC a y cut
  | [p, q, r], h => by
    obtain ⟨⟨x, rfl, hx⟩, ⟨y, rfl, hy⟩, ⟨b, rfl⟩, _⟩ := h
    obtain ⟨x, rfl⟩ := fin16_of hx
    obtain ⟨y, rfl⟩ := fin8_of hy
    refine ⟨x.val, UInt8.ofNat y.val, b, x.isLt, ?_⟩
    have e : (UInt8.ofNat y.val).toNat = y.val := by have := y.isLt; rw [UInt8.toNat_ofNat']; omega
    unfold spotC
    rw [e]
theorem imageSpoilt_walk (w : World) (l : List PatV) (A : Option Addr) (n c : Nat) (hm : n ≤ maxLen) (h : PatsAt w A n l) (cs : List Value) (hc : FlatOk [.int .u16, .int .u8, .bool] cs) (hT : ShaK w ∧ ShaB w) :
    Calls Tryz.prog 5 #[.slice A n c, .agg cs.toArray] w (RetB w (.bool true)) := by
  obtain ⟨a, y, cut, ha, e⟩ := spot_flat hc
  rw [e]
  exact imageSpoilt_walk0 w l A n c hm h a ha y cut hT
end Go.Proofs.YtihggkmjalofiaaGreatDoor
