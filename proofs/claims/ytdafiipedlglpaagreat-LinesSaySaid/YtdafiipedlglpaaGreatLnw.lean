/- The lines of any file are as the document says: the statement walked. -/
import Derived.Test.YtdafiipedlglpaaGreatLnn
import Derived.Test.YtdafiipedlglpaaGreatLny
namespace Go.Proofs.YtdafiipedlglpaaGreat
open Go.RowKit

set_option maxRecDepth 100000 in
set_option maxHeartbeats 16000000 in
theorem linesSay_walk (w : World) (l : List PatV) (A : Option Addr) (n c : Nat) (hm : n ≤ maxLen) (h : PatsAt w A n l) (v : VidV) (i : Int) (_ : (Lit.int .i64 i).wf = true) :
  Calls Tryz.prog 3 #[.slice A n c,.agg (encV v).toArray,.int .i64 i] w (RetB w (.bool true)):=by
 have KV0 : Hid (Blk (w.alloc (.cells (encV v).toArray 27)) w.heap.size 27 (encV v).toArray):=Blk.new _ _ _
 have B0 : Hid (Below w.heap.size w (w.alloc (.cells (encV v).toArray 27))):=Qaf _ _
 have H0:=lH (h.ext B0.out)
 clear h
 go_enter Tryz.func3,Tryz.ntmps3
 go_upto_region 1 with fail
 generalize (w.alloc (.cells (encV v).toArray 27)) = w0 at *
 obtain ⟨gv,hgv⟩ : ∃ g,g = w.heap.size:=⟨_,rfl⟩
 rw [← hgv] at KV0 ⊢
 replace hgv:=lH hgv
 have HF:=lH (few20_any l w0 A n c 12 H0.out hm)
 cases hf : fewsB l 12
 ·rw [Qgg hf] at HF
  go_wp2_with fail
  refine HF.out.mono ?_
  rintro e w3 ⟨rfl,b3⟩
  have B3:=lH (B0.out.trans (b3.mono B0.out.size))
  clear b3 HF
  go_wp2_with fail
  refine (works21 _).mono ?_
  rintro e w4 ⟨rfl,b4⟩
  have B4:=lH (B3.out.trans (b4.mono B3.out.size))
  clear b4
  go_wp2
  go_ret
  exact ⟨rfl,B4.out⟩
 ·rw [fewsN_true hf] at HF
  have hn12 : n ≤ 12:=by have h1:=fews_atL hf; have h2:=H0.out.len; omega
  have hln:=lH H0.out.len
  go_wp2_with fail
  refine HF.out.mono ?_
  rintro e w3 ⟨rfl,b3⟩
  have KV3:=lH (KV0.out.ext b3)
  have B3:=lH (B0.out.trans (b3.mono B0.out.size))
  have H3:=lH (H0.out.ext b3)
  have HB:=lH (build20_any w3 l A n c hm H3.out)
  clear b3 HF hf hm KV0 B0 H0
  go_wp2_with fail
  refine HB.out.mono ?_
  rintro e w4 ⟨F,g,rfl,hG,_,b4⟩
  have HG4:=lH hG
  have KV4:=lH (KV3.out.ext b4)
  have B4:=lH (B3.out.trans (b4.mono B3.out.size))
  have HM:=lH (rmodel21_any w4 l A n c (by omega) (H3.out.ext b4))
  have hL1 : (runG [] l).length ≤ 300:=by have:=runG_few l; have:=hln.out; omega
  clear hG b4 B3 HB KV3 H3
  generalize runG [] l = L at *
  go_wp2_with fail
  refine HM.out.mono ?_
  rintro e w5 ⟨Ax,cx,rfl,hP,b5⟩
  have KX : Hid (Blk ((w5.alloc (.cells #[.slice none 0 0] 33)).setRow w5.heap.size #[.slice Ax L.length cx]) w5.heap.size 33 #[.slice Ax L.length cx]):=(Blk.new _ _ _).row _
  have BN : Hid (Below w5.heap.size w5 ((w5.alloc (.cells #[.slice none 0 0] 33)).setRow w5.heap.size #[.slice Ax L.length cx])):=Qad (Qaf w5 _) (Nat.le_refl _) _
  have BX:=lH (Qaa b5 BN.out)
  have PT8:=lH (hP.ext BN.out)
  have hszG : (Tryz.prog.info? 33).map (·.size) = some (#[.slice Ax L.length cx] : Array Value).size:=Qa9
  go_upto_region 4 with (first
   | (refine Qam (Qdb _) ?_)
   | (refine wpList_store_row rfl 33 _ _ (by rfl) w5.heap.size #[.slice Ax L.length cx] (by rfl) (by rfl) _ _ (Blk.new _ _ _) hszG rfl (by simp [Value.oneCell']) ?_))
  have HG8:=lH (HG4.out.ext BX.out)
  have KV8:=lH (KV4.out.ext BX.out)
  have B8:=lH (B4.out.trans (BX.out.mono B4.out.size))
  clear HG4 KV4 B4 hP b5 BN BX HM hszG
  have KX8:=KX
  clear KX
  generalize ((w5.alloc (.cells #[.slice none 0 0] 33)).setRow w5.heap.size #[.slice Ax L.length cx]) = w8 at *
  generalize w5.heap.size = gx at *
  simp only [Act.put]
  have h200 : Hid (∀ p ∈ L,p.2.2.length ≤ 200):=fun p hp => HG8.out.ok.few hp
  have HFl:=lH (fun (u : World) (hu : Below w8.heap.size w8 u) => rfiles20_any L u Ax L.length cx (PT8.out.ext hu) (by omega) h200.out)
  have hlf : (filesL L).length ≤ 80000:=filesL_few HG8.out.ok (by omega)
  have hcF : ∀ args u,(callFunc 8 args).run Tryz.prog u = .ok (.enter 8 args) u:=enters_of Tryz.func8 (by kernel_rfl) rfl
  generalize filesL L = FL at *
  obtain ⟨nf,hnf⟩ : ∃ n,n = FL.length:=⟨_,rfl⟩
  rw [← hnf] at HFl hlf
  replace hnf:=lH hnf.symm
  go_cut [9] (fun av wx => ∃ Aa ca,av = .slice Aa (nf + 1) ca ∧ VidsAt wx Aa (nf + 1) (FL ++ [v]) ∧ Below w8.heap.size w8 wx)
  case first =>
   refine wp_region_held (S:=fun w' => Below w8.heap.size w8 w') Qav ?_
   change wpAnyH _ _ _ _ _ _ _ _ w8.drew
   have B9 : Hid (Below w8.heap.size w8 w8.drew):=(Below.refl _ _).drew
   generalize w8.drew = w9 at B9 ⊢
   simp only [List.size_toArray,List.length_cons,List.length_nil]
   refine Qai 0 26 (.agg #[.slice Ax L.length cx]) rfl (fun w' h => Qb3 rfl (Qau (cs:=[.slice Ax L.length cx]) (KX8.out.ext h)) Qbx rfl Qa9) B9.out ?_
   simp only [Act.put,sqA,sq0,sqS]
   refine Qai 2 28 (.agg (encV v).toArray) rfl (fun w' h => Qb3 rfl (Qau (KV8.out.ext h)) Qaj rfl Qal) B9.out ?_
   simp only [Act.put,sqA,sq0,sqS]
   refine wpAnyH_all (rs:=[1,3]) (by kernel_rfl) (by simp) ?_
   intro i hi
   simp only [List.mem_cons,List.not_mem_nil,or_false] at hi
   rcases hi with rfl | rfl
   ·refine Qae rfl rfl (Qao (args:=#[.agg #[.slice Ax L.length cx]]) hcF (by simp only [sqM,sqC,sqN]; rfl) (HFl.out w9 B9.out) ?_)
    rintro e w_1 ⟨_,rfl,o_2,h_3⟩
    have O_6 : Hid (w_1.ownsRow w8.heap.size 27 3 _ nf (FL.flatMap encV)):=Qbk o_2 B9.out.size
    obtain ⟨A_4,c_5,e_,_,_⟩:=Sl.of_own o_2
    subst e_
    refine ⟨_,rfl,Qaa B9.out h_3, ?_⟩
    simp only [Act.put,sqA,sq0,sqS]
    have B_7:=lH (Qaa B9.out h_3)
    clear B9
    clear h_3 o_2
    refine oneH 3 ?_
    have L_10 : Hid (Blk (w_1.alloc (.cells (encV v).toArray 27)) w_1.heap.size 27 (encV v).toArray):=Blk.new _ _ _
    have N_12 : Hid (∀ q,(Value.slice A_4 nf c_5).ownBlock = some q → q ≠ w_1.heap.size):=fun q e => Nat.ne_of_lt (O_6.out.lt q e).2
    have h_11 : Below w_1.heap.size w_1 (w_1.alloc (.cells (encV v).toArray 27)):=Qaf _ _
    refine Qae rfl rfl (Qd0 Qfq (cs:=encV v) (Qdk v) (by omega) rfl ?_)
    refine ⟨Qaa B_7.out h_11, ?_⟩
    simp only [Act.put,sqA,sq0,sqS]
    generalize (w_1.alloc (.cells (encV v).toArray 27)) = w_8 at *
    have B_13:=lH (Qaa B_7.out h_11)
    have F_14:=lH (Qap O_6.out h_11)
    clear B_7 O_6
    clear h_11
    generalize w_1.heap.size = g_9 at *
    refine oneH 4 ?_
    refine Qae rfl rfl (Qb7 Qfq F_14.out (Qd1 L_10.out (Qdk v)) (Qc9 v) B_13.out.size (by omega) (by unfold maxLen; omega) rfl rfl ?_)
    intro v_16 w_15 o_17 k_18 hv_19
    have B_20 : Hid (Below w8.heap.size w8 w_15):=B_13.out.trans (k_18.below (fun k e => (F_14.out.lt k e).1) B_13.out.size)
    obtain ⟨A_21,c_22,rfl,_,s_23⟩:=Sl.of_own o_17
    have V_24 : Hid (VidsAt w_15 A_21 (nf + 1) (FL ++ [v])):=⟨by rw [List.length_append,hnf.out]; rfl,by rw [List.flatMap_append]; simpa using s_23⟩
    refine ⟨B_20.out, ?_⟩
    simp only [Act.put,sqA,sq0,sqS]
    clear o_17 k_18 hv_19 s_23 B_13 F_14 L_10 N_12
    refine Qai 5 9 (.slice A_21 (nf + 1) c_22) rfl (fun _ _ => Qby (v:=.slice A_21 (nf + 1) c_22) rfl) B_20.out ?_
    simp only [Act.put,sqA,sq0,sqS]
    refine wpAnyH_done (by kernel_rfl) ?_ _
    go_wp2_with fail
    go_meet
    case rel => exact ⟨_,_,rfl,V_24.out,B_20.out⟩
   ·have L_27 : Hid (Blk (w9.alloc (.cells (encV v).toArray 27)) w9.heap.size 27 (encV v).toArray):=Blk.new _ _ _
    have h_28 : Below w9.heap.size w9 (w9.alloc (.cells (encV v).toArray 27)):=Qaf _ _
    refine Qae rfl rfl (Qd0 Qfq (cs:=encV v) (Qdk v) (by omega) rfl ?_)
    refine ⟨Qaa B9.out h_28, ?_⟩
    simp only [Act.put,sqA,sq0,sqS]
    generalize (w9.alloc (.cells (encV v).toArray 27)) = w_25 at *
    have B_29:=lH (Qaa B9.out h_28)
    clear B9
    clear h_28
    generalize w9.heap.size = g_26 at *
    refine oneH 1 ?_
    refine Qae rfl rfl (Qao (args:=#[.agg #[.slice Ax L.length cx]]) hcF (by simp only [sqM,sqC,sqN]; rfl) (HFl.out w_25 B_29.out) ?_)
    rintro e w_30 ⟨_,rfl,o_31,h_32⟩
    have O_35 : Hid (w_30.ownsRow w8.heap.size 27 3 _ nf (FL.flatMap encV)):=Qbk o_31 B_29.out.size
    obtain ⟨A_33,c_34,e_,_,_⟩:=Sl.of_own o_31
    subst e_
    have N_36 : Hid (∀ q,(Value.slice A_33 nf c_34).ownBlock = some q → q ≠ g_26):=fun q e => by have:=(o_31.lt q e).1; have:=L_27.out.lt; omega
    refine ⟨_,rfl,Qaa B_29.out h_32, ?_⟩
    simp only [Act.put,sqA,sq0,sqS]
    have B_37:=lH (Qaa B_29.out h_32)
    have F_38:=lH (L_27.out.ext h_32)
    clear B_29 L_27
    clear h_32 o_31
    refine oneH 4 ?_
    refine Qae rfl rfl (Qb7 Qfq O_35.out (Qd1 F_38.out (Qdk v)) (Qc9 v) B_37.out.size (by omega) (by unfold maxLen; omega) rfl rfl ?_)
    intro v_40 w_39 o_41 k_42 hv_43
    have B_44 : Hid (Below w8.heap.size w8 w_39):=B_37.out.trans (k_42.below (fun k e => (O_35.out.lt k e).1) B_37.out.size)
    obtain ⟨A_45,c_46,rfl,_,s_47⟩:=Sl.of_own o_41
    have V_48 : Hid (VidsAt w_39 A_45 (nf + 1) (FL ++ [v])):=⟨by rw [List.length_append,hnf.out]; rfl,by rw [List.flatMap_append]; simpa using s_47⟩
    refine ⟨B_44.out, ?_⟩
    simp only [Act.put,sqA,sq0,sqS]
    clear o_41 k_42 hv_43 s_47 B_37 F_38 N_36 O_35
    refine Qai 5 9 (.slice A_45 (nf + 1) c_46) rfl (fun _ _ => Qby (v:=.slice A_45 (nf + 1) c_46) rfl) B_44.out ?_
    simp only [Act.put,sqA,sq0,sqS]
    refine wpAnyH_done (by kernel_rfl) ?_ _
    go_wp2_with fail
    go_meet
    case rel => exact ⟨_,_,rfl,V_48.out,B_44.out⟩
  case rest =>
   obtain ⟨Aa,ca,rfl,va,bx⟩:=hcut
   obtain ⟨ws,rfl⟩ : ∃ wx,wx = wc:=⟨_,rfl⟩
   have VA:=lH va
   have KXs:=lH (KX8.out.ext bx)
   have PTs:=lH (PT8.out.ext bx)
   have HGs:=lH (HG8.out.ext bx)
   have BSs:=lH (B8.out.trans (bx.mono B8.out.size))
   clear va bx KX8 PT8 HG8 B8 KV8 HFl hcF
   obtain ⟨m,hmm⟩ : ∃ m,m = nf + 1:=⟨_,rfl⟩
   rw [← hmm] at VA ⊢
   have hm8 : m ≤ 80001:=by omega
   replace hmm:=lH hmm
   have BI:=lH (Below.refl ws.heap.size ws)
   go_wp2_with fail
   go_loopw [10,11,12,13,14,15,16,17] (fun iv _ _ _ _ _ _ _ wr => ∃ k : Nat,k ≤ m ∧ iv = .int .i64 k ∧ Hid (Below ws.heap.size ws wr)) (fun iv _ _ _ _ _ _ _ _ => m - (intOf iv).toNat)
   case atStart => exact ⟨0,by omega,rfl,BI.out⟩
   case round =>
    clear BI
    obtain ⟨k,hk,rfl,B⟩:=hrel
    obtain ⟨wi,rfl⟩ : ∃ wx,wx = wr:=⟨_,rfl⟩
    have hk0 : (0 : Int) ≤ (k : Int):=by omega
    by_cases hlt : k < m
    ·have hlk : (k : Int) < (m : Int):=by omega
     obtain ⟨b,o,f,rfl,hbf,hfk,rf⟩:=(VA.out.ext B.out).at_ hlt
     have RF:=lH (fun (u : World) (hu : Below wi.heap.size wi u) => Qac rf hu hbf)
     have IX:=lH (fun u => indexVidsL b o m ca k hlt u)
     have KXi:=lH (KXs.out.ext B.out)
     have HA:=lH (fun (u : World) (hu : Below wi.heap.size wi u) => lof_any ((HGs.out.ext B.out).ext hu) hL1 f)
     have HB:=lH (fun (R : Nat → Nat → Bool) (hR : ∀ a b,R a b = true ↔ ViaL (Qh0 L f) a b) (u : World) (hu : Below wi.heap.size wi u) => rlof_any HGs.out.ok u Ax L.length cx ((PTs.out.ext B.out).ext hu) hL1 f hR)
     have hX6 : (Qdf L f).length ≤ 60000:=(lines_few HGs.out.ok hL1 f).1
     clear rf hbf hfk
     generalize Qdf L f = X at *
     generalize Qh0 L f = S at *
     have hcO : ∀ args u,(callFunc 9 args).run Tryz.prog u = .ok (.enter 9 args) u:=enters_of Tryz.func9 (by kernel_rfl) rfl
     have hcQ : ∀ args u,(callFunc 10 args).run Tryz.prog u = .ok (.enter 10 args) u:=enters_of Tryz.func10 (by kernel_rfl) rfl
     go_upto_region 8 with fail
     go_cut [11,12] (fun e1 e2 wx => ∃ gs g12 R,e1 = .pointer (some ⟨gs,0,none⟩) ∧ e2 = .pointer (some ⟨g12,0,none⟩) ∧ SheetAt wx gs X R (ordR R X.length) ∧ RSheetV wx g12 X R ∧ TransR X.length R ∧ Below wi.heap.size wi wx)
     case first =>
      refine wp_region_held (S:=fun w' => Below wi.heap.size wi w') Qav ?_
      change wpAnyH _ _ _ _ _ _ _ _ wi.drew
      have B4 : Hid (Below wi.heap.size wi wi.drew):=(Below.refl _ _).drew
      generalize wi.drew = w4 at B4 ⊢
      simp only [List.size_toArray,List.length_cons,List.length_nil]
      refine Qai 0 37 (.pointer (some ⟨g,0,none⟩)) rfl (fun _ _ => Qax (v:=.pointer (some ⟨g,0,none⟩)) rfl) B4.out ?_
      simp only [Act.put,sqA,sq0,sqS]
      refine Qai 1 38 (.slice (some ⟨b,o,none⟩) m ca) rfl (fun _ _ => Qax (v:=.slice (some ⟨b,o,none⟩) m ca) rfl) B4.out ?_
      simp only [Act.put,sqA,sq0,sqS]
      refine Qai 2 39 (.int .i64 (k : Int)) rfl (fun _ _ => Qax (v:=.int .i64 (k : Int)) rfl) B4.out ?_
      simp only [Act.put,sqA,sq0,sqS]
      refine Qai 3 40 (.pointer (some ⟨b,o + k * 3,none⟩)) rfl (fun w' _ => Qc3 rfl rfl (IX.out w')) B4.out ?_
      simp only [Act.put,sqA,sq0,sqS]
      refine Qai 4 41 (.agg (encV f).toArray) rfl (fun w' h => Qb3 rfl (RF.out w' h) Qaj rfl Qal) B4.out ?_
      simp only [Act.put,sqA,sq0,sqS]
      refine Qai 6 43 (.agg #[.slice Ax L.length cx]) rfl (fun w' h => Qb3 rfl (Qau (cs:=[.slice Ax L.length cx]) (KXi.out.ext h)) Qbx rfl Qa9) B4.out ?_
      simp only [Act.put,sqA,sq0,sqS]
      refine Qai 7 44 (.slice (some ⟨b,o,none⟩) m ca) rfl (fun _ _ => Qax (v:=.slice (some ⟨b,o,none⟩) m ca) rfl) B4.out ?_
      simp only [Act.put,sqA,sq0,sqS]
      refine Qai 8 45 (.int .i64 (k : Int)) rfl (fun _ _ => Qax (v:=.int .i64 (k : Int)) rfl) B4.out ?_
      simp only [Act.put,sqA,sq0,sqS]
      refine Qai 9 46 (.pointer (some ⟨b,o + k * 3,none⟩)) rfl (fun w' _ => Qc3 rfl rfl (IX.out w')) B4.out ?_
      simp only [Act.put,sqA,sq0,sqS]
      refine Qai 10 47 (.agg (encV f).toArray) rfl (fun w' h => Qb3 rfl (RF.out w' h) Qaj rfl Qal) B4.out ?_
      simp only [Act.put,sqA,sq0,sqS]
      refine wpAnyH_all (rs:=[5,12]) (by kernel_rfl) (by simp) ?_
      intro i hi
      simp only [List.mem_cons,List.not_mem_nil,or_false] at hi
      rcases hi with rfl | rfl
      ·refine Qae rfl rfl (Qao (args:=#[.pointer (some ⟨g,0,none⟩),.agg (encV f).toArray]) hcO (by simp only [sqM,sqC,sqN]; rfl) (HA.out w4 B4.out) ?_)
       rintro e w_1 ⟨gs_5,R_6,rfl,s_2,hr_7,ht_9,b_4⟩
       have S_3:=lH s_2
       have HR_8:=lH hr_7
       have HT_10:=lH ht_9
       clear s_2 hr_7 ht_9
       refine ⟨_,rfl,Qaa B4.out b_4, ?_⟩
       simp only [Act.put,sqA,sq0,sqS]
       have B_11:=lH (Qaa B4.out b_4)
       clear B4
       clear b_4
       refine wpAnyH_all (rs:=[11,12]) (by kernel_rfl) (by simp) ?_
       intro i hi
       simp only [List.mem_cons,List.not_mem_nil,or_false] at hi
       rcases hi with rfl | rfl
       ·refine Qae rfl rfl (Qao (args:=#[.agg #[.slice Ax L.length cx],.agg (encV f).toArray]) hcQ (by simp only [sqM,sqC,sqN]; rfl) (HB.out R_6 HR_8.out w_1 B_11.out) ?_)
        rintro e w_12 ⟨_,rfl,⟨Al_14,cl_15,A_16,m_17,c_18,rfl,v_19,r_20⟩,b_13⟩
        have V_21:=lH v_19
        have R8_22:=lH r_20
        clear v_19 r_20
        refine ⟨_,rfl,Qaa B_11.out b_13, ?_⟩
        simp only [Act.put,sqA,sq0,sqS]
        have B_23:=lH (Qaa B_11.out b_13)
        have F_24:=lH (S_3.out.ext b_13)
        clear B_11 S_3
        clear b_13
        refine oneH 12 ?_
        refine Qae rfl rfl (Qaz (allocSh _) ?_)
        refine ⟨Qaa B_23.out (Qaf _ _), ?_⟩
        simp only [Act.put,sqA,sq0,sqS]
        have K_25 : Hid (Blk (w_12.alloc (.cells #[.slice none 0 0,.int .i64 0,.slice none 0 0] 44)) w_12.heap.size 44 #[.slice none 0 0,.int .i64 0,.slice none 0 0]):=Blk.new _ _ _
        have h_26 : Below w_12.heap.size w_12 (w_12.alloc (.cells #[.slice none 0 0,.int .i64 0,.slice none 0 0] 44)):=Qaf _ _
        have gz_28 : Hid (wi.heap.size ≤ w_12.heap.size):=B_23.out.size
        generalize (w_12.alloc (.cells #[.slice none 0 0,.int .i64 0,.slice none 0 0] 44)) = w_27 at *
        have B_30:=lH (Qaa B_23.out h_26)
        have F_31:=lH (F_24.out.ext h_26)
        have F_32:=lH (V_21.out.ext h_26)
        have F_33:=lH (R8_22.out.ext h_26)
        clear B_23 F_24 V_21 R8_22
        clear h_26
        generalize w_12.heap.size = g_29 at *
        refine Qai 13 11 (.pointer (some ⟨gs_5,0,none⟩)) rfl (fun _ _ => Qby (v:=.pointer (some ⟨gs_5,0,none⟩)) rfl) B_30.out ?_
        simp only [Act.put,sqA,sq0,sqS]
        refine oneH 14 ?_
        refine Qae rfl rfl (Qay (cs:=(shV Al_14 X.length cl_15 X.length A_16 m_17 c_18).toArray) rfl rfl K_25.out (show (Tryz.prog.info? 44).map (·.size) = some ((shV Al_14 X.length cl_15 X.length A_16 m_17 c_18).toArray : Array Value).size from Qfo) rfl shV_one ?_)
        have RV_35:=lH (RSheet.stored (cl:=cl_15) K_25.out F_32.out F_33.out)
        have S_36:=lH (F_31.out.setRowT K_25.out rfl (shV Al_14 X.length cl_15 X.length A_16 m_17 c_18).toArray)
        have B_34:=lH (Qad B_30.out gz_28.out (shV Al_14 X.length cl_15 X.length A_16 m_17 c_18).toArray)
        refine ⟨B_34.out, ?_⟩
        clear B_30 F_31 F_32 F_33 K_25
        generalize (w_27.setRow g_29 (shV Al_14 X.length cl_15 X.length A_16 m_17 c_18).toArray) = w_37 at *
        refine wpAnyH_done (by kernel_rfl) ?_ _
        go_wp2_with fail
        go_meet
        case rel => exact ⟨gs_5,g_29,R_6,rfl,rfl,S_36.out,RV_35.out,HT_10.out,B_34.out⟩
       ·refine Qae rfl rfl (Qaz (allocSh _) ?_)
        refine ⟨Qaa B_11.out (Qaf _ _), ?_⟩
        simp only [Act.put,sqA,sq0,sqS]
        have K_38 : Hid (Blk (w_1.alloc (.cells #[.slice none 0 0,.int .i64 0,.slice none 0 0] 44)) w_1.heap.size 44 #[.slice none 0 0,.int .i64 0,.slice none 0 0]):=Blk.new _ _ _
        have h_39 : Below w_1.heap.size w_1 (w_1.alloc (.cells #[.slice none 0 0,.int .i64 0,.slice none 0 0] 44)):=Qaf _ _
        have gz_41 : Hid (wi.heap.size ≤ w_1.heap.size):=B_11.out.size
        generalize (w_1.alloc (.cells #[.slice none 0 0,.int .i64 0,.slice none 0 0] 44)) = w_40 at *
        have B_43:=lH (Qaa B_11.out h_39)
        have F_44:=lH (S_3.out.ext h_39)
        clear B_11 S_3
        clear h_39
        generalize w_1.heap.size = g_42 at *
        refine oneH 11 ?_
        refine Qae rfl rfl (Qao (args:=#[.agg #[.slice Ax L.length cx],.agg (encV f).toArray]) hcQ (by simp only [sqM,sqC,sqN]; rfl) (HB.out R_6 HR_8.out w_40 B_43.out) ?_)
        rintro e w_45 ⟨_,rfl,⟨Al_47,cl_48,A_49,m_50,c_51,rfl,v_52,r_53⟩,b_46⟩
        have V_54:=lH v_52
        have R8_55:=lH r_53
        clear v_52 r_53
        refine ⟨_,rfl,Qaa B_43.out b_46, ?_⟩
        simp only [Act.put,sqA,sq0,sqS]
        have B_56:=lH (Qaa B_43.out b_46)
        have F_57:=lH (F_44.out.ext b_46)
        have F_58:=lH (K_38.out.ext b_46)
        clear B_43 F_44 K_38
        clear b_46
        refine Qai 13 11 (.pointer (some ⟨gs_5,0,none⟩)) rfl (fun _ _ => Qby (v:=.pointer (some ⟨gs_5,0,none⟩)) rfl) B_56.out ?_
        simp only [Act.put,sqA,sq0,sqS]
        refine oneH 14 ?_
        refine Qae rfl rfl (Qay (cs:=(shV Al_47 X.length cl_48 X.length A_49 m_50 c_51).toArray) rfl rfl F_58.out (show (Tryz.prog.info? 44).map (·.size) = some ((shV Al_47 X.length cl_48 X.length A_49 m_50 c_51).toArray : Array Value).size from Qfo) rfl shV_one ?_)
        have RV_60:=lH (RSheet.stored (cl:=cl_48) F_58.out V_54.out R8_55.out)
        have S_61:=lH (F_57.out.setRowT F_58.out rfl (shV Al_47 X.length cl_48 X.length A_49 m_50 c_51).toArray)
        have B_59:=lH (Qad B_56.out gz_41.out (shV Al_47 X.length cl_48 X.length A_49 m_50 c_51).toArray)
        refine ⟨B_59.out, ?_⟩
        clear B_56 F_57 F_58 V_54 R8_55
        generalize (w_45.setRow g_42 (shV Al_47 X.length cl_48 X.length A_49 m_50 c_51).toArray) = w_62 at *
        refine wpAnyH_done (by kernel_rfl) ?_ _
        go_wp2_with fail
        go_meet
        case rel => exact ⟨gs_5,g_42,R_6,rfl,rfl,S_61.out,RV_60.out,HT_10.out,B_59.out⟩
      ·refine Qae rfl rfl (Qaz (allocSh _) ?_)
       refine ⟨Qaa B4.out (Qaf _ _), ?_⟩
       simp only [Act.put,sqA,sq0,sqS]
       have K_63 : Hid (Blk (w4.alloc (.cells #[.slice none 0 0,.int .i64 0,.slice none 0 0] 44)) w4.heap.size 44 #[.slice none 0 0,.int .i64 0,.slice none 0 0]):=Blk.new _ _ _
       have h_64 : Below w4.heap.size w4 (w4.alloc (.cells #[.slice none 0 0,.int .i64 0,.slice none 0 0] 44)):=Qaf _ _
       have gz_66 : Hid (wi.heap.size ≤ w4.heap.size):=B4.out.size
       generalize (w4.alloc (.cells #[.slice none 0 0,.int .i64 0,.slice none 0 0] 44)) = w_65 at *
       have B_68:=lH (Qaa B4.out h_64)
       clear B4
       clear h_64
       generalize w4.heap.size = g_67 at *
       refine oneH 5 ?_
       refine Qae rfl rfl (Qao (args:=#[.pointer (some ⟨g,0,none⟩),.agg (encV f).toArray]) hcO (by simp only [sqM,sqC,sqN]; rfl) (HA.out w_65 B_68.out) ?_)
       rintro e w_69 ⟨gs_73,R_74,rfl,s_70,hr_75,ht_77,b_72⟩
       have S_71:=lH s_70
       have HR_76:=lH hr_75
       have HT_78:=lH ht_77
       clear s_70 hr_75 ht_77
       refine ⟨_,rfl,Qaa B_68.out b_72, ?_⟩
       simp only [Act.put,sqA,sq0,sqS]
       have B_79:=lH (Qaa B_68.out b_72)
       have F_80:=lH (K_63.out.ext b_72)
       clear B_68 K_63
       clear b_72
       refine oneH 11 ?_
       refine Qae rfl rfl (Qao (args:=#[.agg #[.slice Ax L.length cx],.agg (encV f).toArray]) hcQ (by simp only [sqM,sqC,sqN]; rfl) (HB.out R_74 HR_76.out w_69 B_79.out) ?_)
       rintro e w_81 ⟨_,rfl,⟨Al_83,cl_84,A_85,m_86,c_87,rfl,v_88,r_89⟩,b_82⟩
       have V_90:=lH v_88
       have R8_91:=lH r_89
       clear v_88 r_89
       refine ⟨_,rfl,Qaa B_79.out b_82, ?_⟩
       simp only [Act.put,sqA,sq0,sqS]
       have B_92:=lH (Qaa B_79.out b_82)
       have F_93:=lH (F_80.out.ext b_82)
       have F_94:=lH (S_71.out.ext b_82)
       clear B_79 F_80 S_71
       clear b_82
       refine Qai 13 11 (.pointer (some ⟨gs_73,0,none⟩)) rfl (fun _ _ => Qby (v:=.pointer (some ⟨gs_73,0,none⟩)) rfl) B_92.out ?_
       simp only [Act.put,sqA,sq0,sqS]
       refine oneH 14 ?_
       refine Qae rfl rfl (Qay (cs:=(shV Al_83 X.length cl_84 X.length A_85 m_86 c_87).toArray) rfl rfl F_93.out (show (Tryz.prog.info? 44).map (·.size) = some ((shV Al_83 X.length cl_84 X.length A_85 m_86 c_87).toArray : Array Value).size from Qfo) rfl shV_one ?_)
       have RV_96:=lH (RSheet.stored (cl:=cl_84) F_93.out V_90.out R8_91.out)
       have S_97:=lH (F_94.out.setRowT F_93.out rfl (shV Al_83 X.length cl_84 X.length A_85 m_86 c_87).toArray)
       have B_95:=lH (Qad B_92.out gz_66.out (shV Al_83 X.length cl_84 X.length A_85 m_86 c_87).toArray)
       refine ⟨B_95.out, ?_⟩
       clear B_92 F_93 F_94 V_90 R8_91
       generalize (w_81.setRow g_67 (shV Al_83 X.length cl_84 X.length A_85 m_86 c_87).toArray) = w_98 at *
       refine wpAnyH_done (by kernel_rfl) ?_ _
       go_wp2_with fail
       go_meet
       case rel => exact ⟨gs_73,g_67,R_74,rfl,rfl,S_97.out,RV_96.out,HT_78.out,B_95.out⟩
     case rest =>
      obtain ⟨gs,g12,R,rfl,rfl,hSh,hRV,hT,bx⟩:=hcut
      obtain ⟨w5,rfl⟩ : ∃ wx,wx = wc:=⟨_,rfl⟩
      have SS:=lH hSh
      obtain ⟨Al,cl,A8,m8,c8,hKS,hRS⟩:=hRV
      have RS:=lH hRS
      have BW:=lH (B.out.trans (bx.mono B.out.size))
      have hoR:=lH (ordR_told hT)
      have hFR : Hid (∀ i ∈ ordR R X.length,i < X.length):=fun i hi => hoR.out.1.lt i hi
      have hlR : Hid ((ordR R X.length).length = X.length):=hoR.out.2
      clear hSh hRS hT bx HA HB hcO hcQ RF IX KXi B hoR
      obtain ⟨nx,hnx⟩ : ∃ n,n = X.length:=⟨_,rfl⟩
      rw [← hnx] at hKS hX6
      have KS:=lH hKS
      have VX : Hid (VertsAt w5 Al nx X):=by
       obtain ⟨A1,c1,A2,m1,c2,e,h1,_⟩:=RS.out
       rw [hnx]
       have e2:=congrArg (fun v => match v with | Value.agg a => a[0]? | _ => none) e
       simp only [shV,List.getElem?_toArray,List.getElem?_cons_zero,Option.some.injEq,Value.slice.injEq] at e2
       rw [e2.1]
       exact h1
      replace hnx:=lH hnx
      clear hKS
      have HLx:=lH (fun (u : World) (hu : Below w5.heap.size w5 u) => Qih (SS.out.ext hu))
      have HR:=lH (fun (u : World) (hu : Below w5.heap.size w5 u) => rel21_any (SS.out.ext hu))
      have HO:=lH (fun (u : World) (hu : Below w5.heap.size w5 u) => order21_any (SS.out.ext hu) (by rw [hlR.out,← hnx.out]; omega))
      have RO:=lH (fun (u : World) (hu : Below w5.heap.size w5 u) => rorder21_any (RS.out.ext hu))
      have HAl:=lH (fun (u : World) (hu : Below w5.heap.size w5 u) => alive21_any (SS.out.ext hu) (by rw [hlR.out,← hnx.out]; omega) hFR.out)
      have RAl:=lH (fun (u : World) (hu : Below w5.heap.size w5 u) => ralive21_any (RS.out.ext hu) (by rw [← hnx.out]; exact hX6))
      have HFi:=lH (fun (q : Int) (u : World) (hu : Below w5.heap.size w5 u) => firm21_any (SS.out.ext hu) (by rw [← hnx.out]; omega) q)
      have RFq:=lH (fun (q : Int) (u : World) (hu : Below w5.heap.size w5 u) => rfirm21_any (RS.out.ext hu) (by rw [← hnx.out]; exact hX6) q)
      have HVi:=lH (fun (q : Int) (u : World) (hu : Below w5.heap.size w5 u) => line21_any (SS.out.ext hu) q)
      rw [← hnx.out] at HLx HR RO RAl HFi RFq HO HAl
      have hFO : Hid ((ordR R nx).length ≤ maxLen):=by rw [Hid,hnx.out,hlR.out,← hnx.out]; unfold maxLen; omega
      have hGA : Hid ((Qen X (ordR R nx)).length ≤ maxLen):=Nat.le_trans (List.length_filter_le _ _) hFO.out
      clear hlR hFR SS RS
      have HL:=HLx
      have HF:=lH (HFi.out i)
      have RFi:=lH (RFq.out i)
      generalize firmR R nx i = fm at *
      generalize Qen X (ordR R nx) = GA at *
      generalize ordR R nx = FO at *
      have BS:=lH (Below.refl w5.heap.size w5)
      have hcO1 : ∀ args u,(callFunc 15 args).run Tryz.prog u = .ok (.enter 15 args) u:=enters_of Tryz.func15 (by kernel_rfl) rfl
      have hcO2 : ∀ args u,(callFunc 16 args).run Tryz.prog u = .ok (.enter 16 args) u:=enters_of Tryz.func16 (by kernel_rfl) rfl
      have hcA1 : ∀ args u,(callFunc 17 args).run Tryz.prog u = .ok (.enter 17 args) u:=enters_of Tryz.func17 (by kernel_rfl) rfl
      have hcA2 : ∀ args u,(callFunc 18 args).run Tryz.prog u = .ok (.enter 18 args) u:=enters_of Tryz.func18 (by kernel_rfl) rfl
      have hcI : ∀ args u,(callFunc 14 args).run Tryz.prog u = .ok (.enter 14 args) u:=enters_of Tryz.func14 (by kernel_rfl) rfl
      have hcR : ∀ args u,(callFunc 12 args).run Tryz.prog u = .ok (.enter 12 args) u:=enters_of Tryz.func12 (by kernel_rfl) rfl
      have hcL : ∀ args u,(callFunc 11 args).run Tryz.prog u = .ok (.enter 11 args) u:=enters_of Tryz.func11 (by kernel_rfl) rfl
      have hcN : ∀ args u,(callFunc 13 args).run Tryz.prog u = .ok (.enter 13 args) u:=enters_of Tryz.func13 (by kernel_rfl) rfl
      have hcF1 : ∀ args u,(callFunc 19 args).run Tryz.prog u = .ok (.enter 19 args) u:=enters_of Tryz.func19 (by kernel_rfl) rfl
      have hcF2 : ∀ args u,(callFunc 20 args).run Tryz.prog u = .ok (.enter 20 args) u:=enters_of Tryz.func20 (by kernel_rfl) rfl
      go_wp2_with fail
      refine wp_region_held (S:=fun w' => Below w5.heap.size w5 w') Qav ?_
      change wpAnyH _ _ _ _ _ _ _ _ w5.drew
      have B5d : Hid (Below w5.heap.size w5 w5.drew):=(Below.refl _ _).drew
      generalize w5.drew = w5d at B5d ⊢
      simp only [List.size_toArray,List.length_cons,List.length_nil]
      refine Qai 0 49 (.pointer (some ⟨gs,0,none⟩)) rfl (fun _ _ => Qax (v:=.pointer (some ⟨gs,0,none⟩)) rfl) B5d.out ?_
      simp only [Act.put,sqA,sq0,sqS]
      refine Qai 2 51 (.pointer (some ⟨g12,0,none⟩)) rfl (fun w' _ => Qbp rfl (fieldRS0 g12 w')) B5d.out ?_
      simp only [Act.put,sqA,sq0,sqS]
      refine Qai 3 52 (.slice Al nx cl) rfl (fun w' h => Qcw rfl (loadXs g12 0 w' _ _ _ ((KS.out.ext (Qaa BS.out h)).cell 0))) B5d.out ?_
      simp only [Act.put,sqA,sq0,sqS]
      refine Qai 4 53 (.int .i64 ((nx : Nat) : Int)) rfl (fun _ _ => exLen Tryz.underlying39 rfl) B5d.out ?_
      simp only [Act.put,sqA,sq0,sqS]
      refine oneH 1 ?_
      refine Qae rfl rfl (Qao (args:=#[.pointer (some ⟨gs,0,none⟩)]) hcL (by simp only [sqM,sqC,sqN]; rfl) (HL.out w5d B5d.out) ?_)
      rintro e w_1 ⟨rfl,rfl⟩
      refine ⟨_,rfl,B5d.out, ?_⟩
      simp only [Act.put,sqA,sq0,sqS]
      refine Qai 5 54 (.bool false) rfl (fun w' _ => exBin rfl rfl (gdNeqN _ _ _ _ _) (neqN_self _ _)) B5d.out ?_
      simp only [Act.put,sqA,sq0,sqS]
      refine Qai 6 55 (.bool false) rfl (fun _ _ => Qax (v:=.bool false) rfl) B5d.out ?_
      simp only [Act.put,sqA,sq0,sqS]
      refine Qai 7 56 (.pointer (some ⟨gs,0,none⟩)) rfl (fun _ _ => Qax (v:=.pointer (some ⟨gs,0,none⟩)) rfl) B5d.out ?_
      simp only [Act.put,sqA,sq0,sqS]
      refine Qai 10 59 (.pointer (some ⟨g12,0,none⟩)) rfl (fun w' _ => Qbp rfl (fieldRS0 g12 w')) B5d.out ?_
      simp only [Act.put,sqA,sq0,sqS]
      refine Qai 11 60 (.slice Al nx cl) rfl (fun w' h => Qcw rfl (loadXs g12 0 w' _ _ _ ((KS.out.ext (Qaa BS.out h)).cell 0))) B5d.out ?_
      simp only [Act.put,sqA,sq0,sqS]
      refine Qai 12 61 (.int .i64 ((nx : Nat) : Int)) rfl (fun _ _ => exLen Tryz.underlying39 rfl) B5d.out ?_
      simp only [Act.put,sqA,sq0,sqS]
      refine oneH 8 ?_
      refine Qae rfl rfl (Qao (args:=#[.pointer (some ⟨gs,0,none⟩)]) hcR (by simp only [sqM,sqC,sqN]; rfl) (HR.out w5d B5d.out) ?_)
      rintro e w_2 ⟨gr_3,rfl,q_4,h_6⟩
      rw [h_6] at q_4 ⊢
      have R_5:=lH q_4
      clear h_6 q_4
      refine ⟨_,rfl,B5d.out, ?_⟩
      simp only [Act.put,sqA,sq0,sqS]
      refine oneH 9 ?_
      refine Qae rfl rfl (Qao (args:=#[.pointer (some ⟨gr_3,0,none⟩)]) hcN (by simp only [sqM,sqC,sqN]; rfl) (Qeo R_5.out) ?_)
      rintro e w_7 ⟨rfl,rfl⟩
      refine ⟨_,rfl,B5d.out, ?_⟩
      simp only [Act.put,sqA,sq0,sqS]
      refine Qai 13 62 (.bool false) rfl (fun w' _ => exBin rfl rfl (gdNeqN _ _ _ _ _) (neqN_self _ _)) B5d.out ?_
      simp only [Act.put,sqA,sq0,sqS]
      refine Qai 14 63 (.bool false) rfl (fun _ _ => exPickF (v:=.bool false) rfl rfl) B5d.out ?_
      simp only [Act.put,sqA,sq0,sqS]
      refine Qai 15 64 (.bool false) rfl (fun _ _ => Qax (v:=.bool false) rfl) B5d.out ?_
      simp only [Act.put,sqA,sq0,sqS]
      refine Qai 16 65 (.pointer (some ⟨gs,0,none⟩)) rfl (fun _ _ => Qax (v:=.pointer (some ⟨gs,0,none⟩)) rfl) B5d.out ?_
      simp only [Act.put,sqA,sq0,sqS]
      refine Qai 18 67 (.agg (shV Al nx cl nx A8 m8 c8).toArray) rfl (fun w' h => Qb3 rfl (Qau (KS.out.ext (Qaa BS.out h))) Qg1 rfl Qfo) B5d.out ?_
      simp only [Act.put,sqA,sq0,sqS]
      refine oneH 17 ?_
      refine Qae rfl rfl (Qao (args:=#[.pointer (some ⟨gs,0,none⟩)]) hcO1 (by simp only [sqM,sqC,sqN]; rfl) (HO.out w5d B5d.out) ?_)
      rintro e w_8 ⟨_,rfl,o_10,h_9⟩
      obtain ⟨A_11,c_12,rfl,_,p_13⟩:=Sl.of_own o_10
      have Q_14:=lH p_13
      refine ⟨_,rfl,Qaa B5d.out h_9, ?_⟩
      simp only [Act.put,sqA,sq0,sqS]
      have B_15:=lH (Qaa B5d.out h_9)
      have F_16:=lH (R_5.out.ext h_9)
      clear B5d R_5
      clear o_10 h_9 p_13
      refine oneH 19 ?_
      refine Qae rfl rfl (Qao (args:=#[.agg (shV Al nx cl nx A8 m8 c8).toArray]) hcO2 (by simp only [sqM,sqC,sqN]; rfl) (RO.out w_8 B_15.out) ?_)
      rintro e w_17 ⟨A_20,c_21,rfl,o_19,h_18⟩
      have p_22:=own_slN o_19
      have Q_23:=lH p_22
      refine ⟨_,rfl,Qaa B_15.out h_18, ?_⟩
      simp only [Act.put,sqA,sq0,sqS]
      have B_24:=lH (Qaa B_15.out h_18)
      have F_25:=lH (F_16.out.ext h_18)
      have F_26:=lH (Qd2 Q_14.out h_18)
      clear B_15 F_16 Q_14
      clear o_19 h_18 p_22
      refine oneH 20 ?_
      refine Qae rfl rfl (Qao (args:=#[.slice A_11 FO.length c_12,.slice A_20 FO.length c_21]) hcI (by simp only [sqM,sqC,sqN]; rfl) ((ints_same FO _ _ _ FO.length _ _ rfl F_26.out Q_23.out hFO.out).mono fun _ _ h => RetB.ofD h) ?_)
      rintro e w_27 ⟨rfl,h_28⟩
      refine ⟨_,rfl,Qaa B_24.out h_28, ?_⟩
      simp only [Act.put,sqA,sq0,sqS]
      have B_29:=lH (Qaa B_24.out h_28)
      have F_30:=lH (F_25.out.ext h_28)
      have F_31:=lH (Qd2 F_26.out h_28)
      have F_32:=lH (Qd2 Q_23.out h_28)
      clear B_24 F_25 F_26 Q_23
      clear h_28
      refine Qai 21 70 (.bool false) rfl (fun w' _ => exBin rfl rfl (gdEqlN _ _ _ _ _) (eqlI10 _)) B_29.out ?_
      simp only [Act.put,sqA,sq0,sqS]
      refine Qai 22 71 (.bool false) rfl (fun _ _ => exPickF (v:=.bool false) rfl rfl) B_29.out ?_
      simp only [Act.put,sqA,sq0,sqS]
      refine Qai 23 72 (.bool false) rfl (fun _ _ => Qax (v:=.bool false) rfl) B_29.out ?_
      simp only [Act.put,sqA,sq0,sqS]
      refine Qai 24 73 (.pointer (some ⟨gs,0,none⟩)) rfl (fun _ _ => Qax (v:=.pointer (some ⟨gs,0,none⟩)) rfl) B_29.out ?_
      simp only [Act.put,sqA,sq0,sqS]
      refine Qai 26 75 (.agg (shV Al nx cl nx A8 m8 c8).toArray) rfl (fun w' h => Qb3 rfl (Qau (KS.out.ext (Qaa BS.out h))) Qg1 rfl Qfo) B_29.out ?_
      simp only [Act.put,sqA,sq0,sqS]
      refine oneH 25 ?_
      refine Qae rfl rfl (Qao (args:=#[.pointer (some ⟨gs,0,none⟩)]) hcA1 (by simp only [sqM,sqC,sqN]; rfl) (HAl.out w_27 B_29.out) ?_)
      rintro e w_33 ⟨_,rfl,o_35,h_34⟩
      obtain ⟨A_36,c_37,rfl,_,p_38⟩:=Sl.of_own o_35
      have Q_39:=lH p_38
      refine ⟨_,rfl,Qaa B_29.out h_34, ?_⟩
      simp only [Act.put,sqA,sq0,sqS]
      have B_40:=lH (Qaa B_29.out h_34)
      have F_41:=lH (F_30.out.ext h_34)
      have F_42:=lH (Qd2 F_31.out h_34)
      have F_43:=lH (Qd2 F_32.out h_34)
      clear B_29 F_30 F_31 F_32
      clear o_35 h_34 p_38
      refine oneH 27 ?_
      refine Qae rfl rfl (Qao (args:=#[.agg (shV Al nx cl nx A8 m8 c8).toArray]) hcA2 (by simp only [sqM,sqC,sqN]; rfl) (RAl.out w_33 B_40.out) ?_)
      rintro e w_44 ⟨A_47,c_48,rfl,o_46,h_45⟩
      have p_49:=own_slN o_46
      have Q_50:=lH p_49
      refine ⟨_,rfl,Qaa B_40.out h_45, ?_⟩
      simp only [Act.put,sqA,sq0,sqS]
      have B_51:=lH (Qaa B_40.out h_45)
      have F_52:=lH (F_41.out.ext h_45)
      have F_53:=lH (Qd2 F_42.out h_45)
      have F_54:=lH (Qd2 F_43.out h_45)
      have F_55:=lH (Qd2 Q_39.out h_45)
      clear B_40 F_41 F_42 F_43 Q_39
      clear o_46 h_45 p_49
      refine oneH 28 ?_
      refine Qae rfl rfl (Qao (args:=#[.slice A_36 GA.length c_37,.slice A_47 GA.length c_48]) hcI (by simp only [sqM,sqC,sqN]; rfl) ((ints_same GA _ _ _ GA.length _ _ rfl F_55.out Q_50.out hGA.out).mono fun _ _ h => RetB.ofD h) ?_)
      rintro e w_56 ⟨rfl,h_57⟩
      refine ⟨_,rfl,Qaa B_51.out h_57, ?_⟩
      simp only [Act.put,sqA,sq0,sqS]
      have B_58:=lH (Qaa B_51.out h_57)
      have F_59:=lH (F_52.out.ext h_57)
      have F_60:=lH (Qd2 F_53.out h_57)
      have F_61:=lH (Qd2 F_54.out h_57)
      have F_62:=lH (Qd2 F_55.out h_57)
      have F_63:=lH (Qd2 Q_50.out h_57)
      clear B_51 F_52 F_53 F_54 F_55 Q_50
      clear h_57
      refine Qai 29 78 (.bool false) rfl (fun w' _ => exBin rfl rfl (gdEqlN _ _ _ _ _) (eqlI10 _)) B_58.out ?_
      simp only [Act.put,sqA,sq0,sqS]
      refine Qai 30 79 (.bool false) rfl (fun _ _ => exPickF (v:=.bool false) rfl rfl) B_58.out ?_
      simp only [Act.put,sqA,sq0,sqS]
      refine Qai 31 80 (.bool false) rfl (fun _ _ => Qax (v:=.bool false) rfl) B_58.out ?_
      simp only [Act.put,sqA,sq0,sqS]
      refine Qai 32 81 (.pointer (some ⟨gs,0,none⟩)) rfl (fun _ _ => Qax (v:=.pointer (some ⟨gs,0,none⟩)) rfl) B_58.out ?_
      simp only [Act.put,sqA,sq0,sqS]
      refine Qai 33 82 (.int .i64 i) rfl (fun _ _ => Qax (v:=.int .i64 i) rfl) B_58.out ?_
      simp only [Act.put,sqA,sq0,sqS]
      refine Qai 35 84 (.agg (shV Al nx cl nx A8 m8 c8).toArray) rfl (fun w' h => Qb3 rfl (Qau (KS.out.ext (Qaa BS.out h))) Qg1 rfl Qfo) B_58.out ?_
      simp only [Act.put,sqA,sq0,sqS]
      refine Qai 36 85 (.int .i64 i) rfl (fun _ _ => Qax (v:=.int .i64 i) rfl) B_58.out ?_
      simp only [Act.put,sqA,sq0,sqS]
      refine oneH 34 ?_
      refine Qae rfl rfl (Qao (args:=#[.pointer (some ⟨gs,0,none⟩),.int .i64 i]) hcF1 (by simp only [sqM,sqC,sqN]; rfl) (HF.out w_56 B_58.out) ?_)
      rintro e w_64 ⟨rfl,rfl⟩
      refine ⟨_,rfl,B_58.out, ?_⟩
      simp only [Act.put,sqA,sq0,sqS]
      refine oneH 37 ?_
      refine Qae rfl rfl (Qao (args:=#[.agg (shV Al nx cl nx A8 m8 c8).toArray,.int .i64 i]) hcF2 (by simp only [sqM,sqC,sqN]; rfl) (RFi.out w_56 B_58.out) ?_)
      rintro e w_65 ⟨rfl,h_66⟩
      refine ⟨_,rfl,Qaa B_58.out h_66, ?_⟩
      simp only [Act.put,sqA,sq0,sqS]
      have B_67:=lH (Qaa B_58.out h_66)
      have F_68:=lH (F_59.out.ext h_66)
      have F_69:=lH (Qd2 F_60.out h_66)
      have F_70:=lH (Qd2 F_61.out h_66)
      have F_71:=lH (Qd2 F_62.out h_66)
      have F_72:=lH (Qd2 F_63.out h_66)
      clear B_58 F_59 F_60 F_61 F_62 F_63
      clear h_66
      refine Qai 38 87 (.bool false) rfl (fun w' _ => exBin rfl rfl (gdNeqB _ _ _ _ _) (neqB_self _ _)) B_67.out ?_
      simp only [Act.put,sqA,sq0,sqS]
      refine Qai 39 88 (.bool false) rfl (fun _ _ => exPickF (v:=.bool false) rfl rfl) B_67.out ?_
      simp only [Act.put,sqA,sq0,sqS]
      refine wpAnyH_done (by kernel_rfl) ?_ _
      have B6:=B_67
      obtain ⟨w6,rfl⟩ : ∃ wx,wx = w_65:=⟨_,rfl⟩
      clear B_67 F_68 F_69 F_70 F_71 F_72 HO RO HAl RAl HL HR HF RFi hcO1 hcO2 hcA1 hcA2 hcI hcR hcL hcN hcF1 hcF2 hFO hGA
      have BW6:=lH (Qaa BS.out B6.out)
      clear BS B6
      go_wp2_with fail
      go_loopw [13,14,15] (fun iv _ _ wr => ∃ j : Nat,j ≤ nx ∧ iv = .int .i64 j ∧ Hid (Below w5.heap.size w5 wr)) (fun iv _ _ _ => nx - (intOf iv).toNat)
      case atStart => exact ⟨0,by omega,rfl,BW6.out⟩
      case round =>
       clear BW6
       obtain ⟨j,hjn,rfl,BI⟩:=hrel
       obtain ⟨wj,rfl⟩ : ∃ wx,wx = wr:=⟨_,rfl⟩
       have hj0 : (0 : Int) ≤ (j : Int):=by omega
       have y0 : wj.cell? ⟨g12,0,none⟩ = some (.slice Al nx cl):=(KS.out.ext BI.out).cell 0
       by_cases hj : j < nx
       ·have hji : (j : Int) < (nx : Int):=by omega
        obtain ⟨b2,o2,x,rfl,hb2,hx,R2⟩:=(VX.out.ext BI.out).at_ hj
        have HV:=lH (HVi.out (j : Int) wj BI.out)
        rw [lineI_some hx] at HV
        have R2H:=lH R2
        have HB2:=lH hb2
        clear hx R2 hb2
        go_wp2_with fail
        refine HV.out.mono ?_
        rintro e w7 ⟨rfl,b7⟩
        have KX0 : Hid (Blk ((w7.alloc (.cells Qa8 56)).setRow w7.heap.size (encX x).toArray) w7.heap.size 56 (encX x).toArray):=(Blk.new _ _ _).row _
        have BN : Hid (Below w7.heap.size w7 ((w7.alloc (.cells Qa8 56)).setRow w7.heap.size (encX x).toArray)):=Qad (Qaf w7 _) (Nat.le_refl _) _
        have BV:=lH (Qaa b7 BN.out)
        go_upto_region 15 with (first
         | (refine Qam (Qbu _) ?_)
         | (refine wpList_store_row rfl 56 _ _ (by rfl) w7.heap.size (encX x).toArray (by rfl) (by rfl) _ _ (Blk.new _ _ _) Qas rfl (Qbj _) ?_))
        have KX:=KX0
        clear KX0 b7 BN HV
        generalize ((w7.alloc (.cells Qa8 56)).setRow w7.heap.size (encX x).toArray) = w8 at *
        generalize w7.heap.size = gx4 at *
        have BS:=lH (Qaa BI.out BV.out)
        have RX2 : Hid (∀ u,Below w8.heap.size w8 u → u.rangeAt b2 (o2 + j * 9) (encX x)):=fun u hu => Qac R2H.out (Qaa BV.out hu) HB2.out
        have HF:=lH (fun (u : World) (hu : Below w8.heap.size w8 u) => HFi.out (j : Int) u (Qaa BS.out hu))
        have RFi:=lH (fun (u : World) (hu : Below w8.heap.size w8 u) => RFq.out (j : Int) u (Qaa BS.out hu))
        clear R2H BI BV y0 HVi HFi RFq
        generalize firmR R nx ((j : Nat) : Int) = fm at *
        have hcF1 : ∀ args u,(callFunc 19 args).run Tryz.prog u = .ok (.enter 19 args) u:=enters_of Tryz.func19 (by kernel_rfl) rfl
        have hcF2 : ∀ args u,(callFunc 20 args).run Tryz.prog u = .ok (.enter 20 args) u:=enters_of Tryz.func20 (by kernel_rfl) rfl
        go_wp2_with fail
        refine wp_region_held (S:=fun w' => Below w8.heap.size w8 w') Qav ?_
        change wpAnyH _ _ _ _ _ _ _ _ w8.drew
        have B7d : Hid (Below w8.heap.size w8 w8.drew):=(Below.refl _ _).drew
        generalize w8.drew = w7d at B7d ⊢
        simp only [List.size_toArray,List.length_cons,List.length_nil]
        refine Qai 0 102 (.bool true) rfl (fun _ _ => Qax (v:=.bool true) rfl) B7d.out ?_
        simp only [Act.put,sqA,sq0,sqS]
        refine Qai 1 103 (.bool false) rfl (fun _ _ => exNot (b:=true) rfl) B7d.out ?_
        simp only [Act.put,sqA,sq0,sqS]
        refine Qai 2 104 (.bool false) rfl (fun _ _ => Qax (v:=.bool false) rfl) B7d.out ?_
        simp only [Act.put,sqA,sq0,sqS]
        refine Qai 3 105 (.agg (encX x).toArray) rfl (fun w' h => Qb3 rfl (Qau (KX.out.ext h)) Qa2 rfl Qas) B7d.out ?_
        simp only [Act.put,sqA,sq0,sqS]
        refine Qai 4 106 (.pointer (some ⟨g12,0,none⟩)) rfl (fun w' _ => Qbp rfl (fieldRS0 g12 w')) B7d.out ?_
        simp only [Act.put,sqA,sq0,sqS]
        refine Qai 5 107 (.slice (some ⟨b2,o2,none⟩) nx cl) rfl (fun w' h => Qcw rfl (loadXs g12 0 w' _ _ _ ((KS.out.ext (Qaa BS.out h)).cell 0))) B7d.out ?_
        simp only [Act.put,sqA,sq0,sqS]
        refine Qai 6 108 (.int .i64 ((j : Nat) : Int)) rfl (fun _ _ => Qax (v:=.int .i64 ((j : Nat) : Int)) rfl) B7d.out ?_
        simp only [Act.put,sqA,sq0,sqS]
        refine Qai 7 109 (.pointer (some ⟨b2,o2 + j * 9,none⟩)) rfl (fun w' _ => Qc3 rfl rfl (indexXL b2 o2 nx cl j hj w')) B7d.out ?_
        simp only [Act.put,sqA,sq0,sqS]
        refine Qai 8 110 (.agg (encX x).toArray) rfl (fun w' h => Qb3 rfl (RX2.out w' h) Qa2 rfl Qas) B7d.out ?_
        simp only [Act.put,sqA,sq0,sqS]
        refine Qai 9 111 (.bool false) rfl (fun w' _ => exBin rfl rfl (gdNeqX _ _ _ _ _) (neqX_self _ _)) B7d.out ?_
        simp only [Act.put,sqA,sq0,sqS]
        refine Qai 10 112 (.bool false) rfl (fun _ _ => exPickF (v:=.bool false) rfl rfl) B7d.out ?_
        simp only [Act.put,sqA,sq0,sqS]
        refine Qai 11 113 (.bool false) rfl (fun _ _ => Qax (v:=.bool false) rfl) B7d.out ?_
        simp only [Act.put,sqA,sq0,sqS]
        refine Qai 12 114 (.pointer (some ⟨gs,0,none⟩)) rfl (fun _ _ => Qax (v:=.pointer (some ⟨gs,0,none⟩)) rfl) B7d.out ?_
        simp only [Act.put,sqA,sq0,sqS]
        refine Qai 13 115 (.int .i64 ((j : Nat) : Int)) rfl (fun _ _ => Qax (v:=.int .i64 ((j : Nat) : Int)) rfl) B7d.out ?_
        simp only [Act.put,sqA,sq0,sqS]
        refine Qai 15 117 (.agg (shV (some ⟨b2,o2,none⟩) nx cl nx A8 m8 c8).toArray) rfl (fun w' h => Qb3 rfl (Qau (KS.out.ext (Qaa BS.out h))) Qg1 rfl Qfo) B7d.out ?_
        simp only [Act.put,sqA,sq0,sqS]
        refine Qai 16 118 (.int .i64 ((j : Nat) : Int)) rfl (fun _ _ => Qax (v:=.int .i64 ((j : Nat) : Int)) rfl) B7d.out ?_
        simp only [Act.put,sqA,sq0,sqS]
        refine oneH 14 ?_
        refine Qae rfl rfl (Qao (args:=#[.pointer (some ⟨gs,0,none⟩),.int .i64 ((j : Nat) : Int)]) hcF1 (by simp only [sqM,sqC,sqN]; rfl) (HF.out w7d B7d.out) ?_)
        rintro e w_1 ⟨rfl,rfl⟩
        refine ⟨_,rfl,B7d.out, ?_⟩
        simp only [Act.put,sqA,sq0,sqS]
        refine oneH 17 ?_
        refine Qae rfl rfl (Qao (args:=#[.agg (shV (some ⟨b2,o2,none⟩) nx cl nx A8 m8 c8).toArray,.int .i64 ((j : Nat) : Int)]) hcF2 (by simp only [sqM,sqC,sqN]; rfl) (RFi.out w7d B7d.out) ?_)
        rintro e w_2 ⟨rfl,h_3⟩
        refine ⟨_,rfl,Qaa B7d.out h_3, ?_⟩
        simp only [Act.put,sqA,sq0,sqS]
        have B_4:=lH (Qaa B7d.out h_3)
        clear B7d
        clear h_3
        refine Qai 18 120 (.bool false) rfl (fun w' _ => exBin rfl rfl (gdNeqB _ _ _ _ _) (neqB_self _ _)) B_4.out ?_
        simp only [Act.put,sqA,sq0,sqS]
        refine Qai 19 121 (.bool false) rfl (fun _ _ => exPickF (v:=.bool false) rfl rfl) B_4.out ?_
        simp only [Act.put,sqA,sq0,sqS]
        refine wpAnyH_done (by kernel_rfl) ?_ _
        have BF:=lH (Qaa BS.out B_4.out)
        clear B_4 BS KX RX2 HF RFi
        go_wp2_with fail
        go_roundw
        case rel => exact ⟨j + 1,by omega,by go_num,BF.out⟩
        case measure => simp [intOf]; omega
       ·have hji : ¬ (j : Int) < (nx : Int):=by omega
        clear VX HFi RFq
        go_wp2_with fail
        refine (HVi.out i wj BI.out).mono ?_
        rintro e w7 ⟨rfl,b7⟩
        have hlx:=lH (fun h => lineI_out (X:=X) (i:=i) h)
        have hlin:=lH (fun (q : Nat) (x : Qa4) (h : X[q]? = some x) => lineI_some h)
        have KX0 : Hid (Blk ((w7.alloc (.cells Qa8 56)).setRow w7.heap.size (encX (lineI X i).1).toArray) w7.heap.size 56 (encX (lineI X i).1).toArray):=(Blk.new _ _ _).row _
        have BN : Hid (Below w7.heap.size w7 ((w7.alloc (.cells Qa8 56)).setRow w7.heap.size (encX (lineI X i).1).toArray)):=Qad (Qaf w7 _) (Nat.le_refl _) _
        go_upto_region 18 with (first
         | (refine Qam (Qbu _) ?_)
         | (refine wpList_store_row rfl 56 _ _ (by rfl) w7.heap.size (encX (lineI X i).1).toArray (by rfl) (by rfl) _ _ (Blk.new _ _ _) Qas rfl (Qbj _) ?_))
        have BI8:=lH (Qaa BI.out (Qaa b7 BN.out))
        have BF:=lH (BW.out.trans (BI8.out.mono BW.out.size))
        clear b7 BN BI
        generalize ((w7.alloc (.cells Qa8 56)).setRow w7.heap.size (encX (lineI X i).1).toArray) = w8 at *
        generalize w7.heap.size = gx6 at *
        have z0 : w8.cell? ⟨g12,0,none⟩ = some (.slice Al nx cl):=(KS.out.ext BI8.out).cell 0
        by_cases hi0 : i < 0
        ·have E:=lH (hlx.out (.inl hi0))
         have di : ¬ (0 : Int) ≤ i:=by omega
         rw [E.out] at KX0 ⊢
         have EX : ∀ u : World,(binOp .neq 56 (.agg (encX Qbr).toArray) (.agg #[.int .u8 0,.int .u16 0,.int .u8 0,.int .u8 0,.int .u8 0,.int .u16 0,.int .u8 0,.string { data:=#[] },.bool false])).run Tryz.prog u = .ok (.bool false) u:=fun u => neqX_self Qbr u
         go_wp2_with (refine Qa6 (by kernel_rfl) 56 _ (by rfl) gx6 (by rfl) _ _ _ _ KX0.out Qa2 rfl Qas ?_)
         go_roundw
         case rel => exact ⟨k + 1,by omega,by go_num,BF.out⟩
         case measure => simp [intOf]; omega
        ·have di : (0 : Int) ≤ i:=by omega
         by_cases hin : i < (nx : Int)
         ·obtain ⟨q,rfl⟩ : ∃ q : Nat,i = (q : Int):=⟨i.toNat,by omega⟩
          have hq : q < X.length:=by have:=hnx.out; omega
          have E:=lH (hlin.out q X[q] (List.getElem?_eq_getElem hq))
          rw [E.out] at KX0 ⊢
          go_wp2_with fail
          go_roundw
          case rel => exact ⟨k + 1,by omega,by go_num,BF.out⟩
          case measure => simp [intOf]; omega
         ·have E:=lH (hlx.out (.inr (by have:=hnx.out; omega)))
          rw [E.out] at KX0 ⊢
          have EX : ∀ u : World,(binOp .neq 56 (.agg (encX Qbr).toArray) (.agg #[.int .u8 0,.int .u16 0,.int .u8 0,.int .u8 0,.int .u8 0,.int .u16 0,.int .u8 0,.string { data:=#[] },.bool false])).run Tryz.prog u = .ok (.bool false) u:=fun u => neqX_self Qbr u
          go_wp2_with (refine Qa6 (by kernel_rfl) 56 _ (by rfl) gx6 (by rfl) _ _ _ _ KX0.out Qa2 rfl Qas ?_)
          go_roundw
          case rel => exact ⟨k + 1,by omega,by go_num,BF.out⟩
          case measure => simp [intOf]; omega
    ·have hlk : ¬ (k : Int) < (m : Int):=by omega
     have BF:=lH (BSs.out.trans (B.out.mono BSs.out.size))
     go_wp2_with fail
     refine (works21 _).mono ?_
     rintro e w8 ⟨rfl,b8⟩
     have B8:=lH (BF.out.trans (b8.mono BF.out.size))
     clear b8
     go_wp2
     go_ret
     exact ⟨rfl,B8.out⟩
end Go.Proofs.YtdafiipedlglpaaGreat
