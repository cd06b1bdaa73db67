/- A graph: whether a patch can be applied: walked. -/
import Derived.Test.YtdafiipedlglpaaGreatGrgs
import Derived.Test.YtdafiipedlglpaaGreatPats
import Derived.Test.YtdafiipedlglpaaGreatLists
namespace Go.Proofs.YtdafiipedlglpaaGreat
open Go.RowKit

theorem grE_1 {L : List PatV} {p : PatV} (h : patB p = false) : grE L p = 1:=by unfold grE; rw [h]; rfl
theorem grE_7 {L : List PatV} {p : PatV} (h : patB p = true) (e : hasP (vecL L) p.1 = true) : grE L p = 7:=by unfold grE; rw [if_pos h,if_pos e]
theorem grE_9 {L : List PatV} {p : PatV} (h : patB p = true) (e : hasP (vecL L) p.1 = false) (f : Qhj (vecL L) p.1 = false) : grE L p = 9:=by unfold grE; rw [if_pos h,e,f]; rfl
theorem grE_9d {L : List PatV} {p : PatV} (h : patB p = true) (e : hasP (vecL L) p.1 = false) (f : Qhj (vecL L) p.1 = true) (d : p.2.1.all (hasP (vecL L)) = false) : grE L p = 9:=by unfold grE; rw [if_pos h,e,f,d]; rfl
theorem grE_10 {L : List PatV} {p : PatV} (h : patB p = true) (e : hasP (vecL L) p.1 = false) (f : Qhj (vecL L) p.1 = true) (d : p.2.1.all (hasP (vecL L)) = true) (r : p.2.2.all (refB (rawV (L ++ [p]))) = false) : grE L p = 10:=by unfold grE; rw [if_pos h,e,f,d,r]; rfl
theorem grE_0 {L : List PatV} {p : PatV} (h : patB p = true) (e : hasP (vecL L) p.1 = false) (f : Qhj (vecL L) p.1 = true) (d : p.2.1.all (hasP (vecL L)) = true) (r : p.2.2.all (refB (rawV (L ++ [p]))) = true) : grE L p = 0:=by unfold grE; rw [if_pos h,e,f,d,r]; rfl
theorem neqXYg (a b : Int) (d : PidV) (w : World) : (binOp .neq 25 (.agg #[.int .u8 a,.int .u16 b]) (.agg (encP d).toArray)).run Tryz.prog w = .ok (.bool (!(decide (a = ((d.1.val : Nat) : Int)) && decide (b = ((d.2.val : Nat) : Int))))) w:=by
 unfold encP
 simp [go_sem]
 by_cases h1 : a = ((d.1.val : Nat) : Int)
 ·by_cases h2 : b = ((d.2.val : Nat) : Int) <;> simp [h1,h2]
 ·simp [h1]
set_option maxRecDepth 100000 in
set_option maxHeartbeats 8000000 in
theorem check20_any {w : World} {F : Nat → Prop} {g : Nat} {L : List PatV} (hI : GraphAt w F g L) (p : PatV) (cs : List Value) (hp : PatAt w cs p) :
  Calls Tryz.prog 52 #[.pointer (some ⟨g,0,none⟩),.agg cs.toArray] w (RetB w (.int .i64 ((grE L p : Nat) : Int))):=by
 have hp0:=hp
 obtain ⟨⟨A,c,A',c',rfl,P1,O1⟩,m1,m2⟩:=hp0
 unfold maxLen at m1 m2
 have K0 : Hid (Blk (w.alloc (.cells (patC p.1 A p.2.1.length c A' p.2.2.length c').toArray 64)) w.heap.size 64 (patC p.1 A p.2.1.length c A' p.2.2.length c').toArray):=Blk.new _ _ _
 have B0 : Hid (Below w.heap.size w (w.alloc (.cells (patC p.1 A p.2.1.length c A' p.2.2.length c').toArray 64))):=Qaf _ _
 have HI:=lH (hI.ext B0.out)
 have HPA:=lH (hp.ext B0.out)
 have HP1:=lH (P1.ext B0.out)
 have HO1:=lH (O1.ext B0.out)
 clear hI hp P1 O1
 go_enter Tryz.func52,Tryz.ntmps52
 go_upto_region 1 with fail
 generalize (w.alloc (.cells (patC p.1 A p.2.1.length c A' p.2.2.length c').toArray 64)) = w2 at *
 obtain ⟨g3,hg3⟩ : ∃ g3,g3 = w.heap.size:=⟨_,rfl⟩
 rw [← hg3] at K0 ⊢
 replace hg3:=lH hg3
 have HG:=lH (good18_any p w2 _ HPA.out)
 have LDP : True:=trivial
 cases hg : patB p
 ·rw [hg] at HG
  have N:=lH (grE_1 (L:=L) hg)
  clear hg
  go_wp2_with (refine Qa6 (by rfl) 64 _ (by rfl) g3 (by rfl) _ _ _ _ K0.out Qbf rfl Qa7 ?_)
  refine HG.out.mono ?_
  rintro e w3 ⟨rfl,b3⟩
  have B3:=lH (B0.out.trans (b3.mono B0.out.size))
  clear b3 HG
  go_wp2
  go_ret
  exact ⟨by rw [N.out]; rfl,B3.out⟩
 rw [hg] at HG
 have hg:=lH hg
 go_wp2_with (refine Qa6 (by rfl) 64 _ (by rfl) g3 (by rfl) _ _ _ _ K0.out Qbf rfl Qa7 ?_)
 refine HG.out.mono ?_
 rintro e w3 ⟨rfl,b3⟩
 have B3:=lH (B0.out.trans (b3.mono B0.out.size))
 have K3:=lH (K0.out.ext b3)
 have HI:=lH (HI.out.ext b3)
 have HPA:=lH (HPA.out.ext b3)
 have HP1:=lH (HP1.out.ext b3)
 have HO1:=lH (HO1.out.ext b3)
 clear b3 HG K0 B0 LDP
 obtain ⟨gm,ge,GC⟩:=HI.out.mem.cells
 have RV:=lH GC.v
 have gl:=lH GC.lt
 clear GC
 have RP:=lH (Qek K3.out)
 have g3l : Hid (g3 < w3.heap.size):=K3.out.lt
 have HH : Hid (∀ (d : PidV) (u : World),Calls Tryz.prog 86 #[.agg ((vecL L).map (Value.int .u16)).toArray,.agg (encP d).toArray] u (RetB u (.bool (hasP (vecL L) d)))):=fun d u => has_any (vecL L) (Qcd L) d.1.val d.1.isLt ((d.2.val : Nat) : Int) u
 have HN : Hid (∀ u : World,Calls Tryz.prog 87 #[.agg ((vecL L).map (Value.int .u16)).toArray,.int .u8 ((p.1.1.val : Nat) : Int)] u (RetB u (.agg #[.int .u8 (Qcp (vecL L) p.1.1.val).1,.int .u16 (Qcp (vecL L) p.1.1.val).2]))):=fun u => next_any (vecL L) (Qcd L) p.1.1.val p.1.1.isLt u
 have HHp:=lH (HH.out p.1)
 go_upto_region 3 with fail
 cases hh : hasP (vecL L) p.1
 ·rw [hh] at HHp
  have hh:=lH hh
  refine Qah Qav (by kernel_rfl) ?_
  repeat (first
   | (refine Qab (Qak RV.out gl.out) Qb4 rfl (Qgv (Qcd L)) rfl rfl ?_; simp only [sqS,sq0])
   | (refine Qab (Qak RP.out g3l.out) Qan rfl Qaq rfl rfl ?_; simp only [sqS,sq0])
   | go_big_quiet_step ((go_at_call 86; exact Qba (HHp.out _))))
  refine wpQuiet_nil ?_
  rintro _ ⟨z,rfl⟩
  have B4:=lH (B3.out.trans (z.h.mono B3.out.size))
  have K4:=lH (K3.out.ext z.h)
  have HI:=lH (HI.out.ext z.h)
  have HPA:=lH (HPA.out.ext z.h)
  have HP1:=lH (HP1.out.ext z.h)
  have HO1:=lH (HO1.out.ext z.h)
  have RV:=lH (Qac RV.out z.h gl.out)
  have RP:=lH (Qac RP.out z.h g3l.out)
  have gl : Hid (g < z.w.heap.size):=Nat.lt_of_lt_of_le gl.out z.h.size
  have g3l : Hid (g3 < z.w.heap.size):=Nat.lt_of_lt_of_le g3l.out z.h.size
  generalize z.w = w4 at *
  clear B3 K3 HHp
  go_upto_region 5 with fail
  have q0 : ∀ z : Ext w4,z.w.cell? ⟨g3,0,none⟩ = some (.int .u8 ((p.1.1.val : Nat) : Int)):=fun z => (K4.out.ext z.h).cell 0
  have NEQ:=fun u => neqXYg (Qcp (vecL L) p.1.1.val).1 (Qcp (vecL L) p.1.1.val).2 p.1 u
  cases hb : Qhj (vecL L) p.1
  ·have N:=lH (grE_9 hg.out hh.out hb)
   have NEQ' : ∀ u : World,(binOp .neq 25 (.agg #[.int .u8 (Qcp (vecL L) p.1.1.val).1,.int .u16 (Qcp (vecL L) p.1.1.val).2]) (.agg (encP p.1).toArray)).run Tryz.prog u = .ok (.bool true) u:=fun u => by
    refine (NEQ u).trans ?_
    have : (decide ((Qcp (vecL L) p.1.1.val).1 = ((p.1.1.val : Nat) : Int)) && decide ((Qcp (vecL L) p.1.1.val).2 = ((p.1.2.val : Nat) : Int))) = false:=hb
    rw [this]; rfl
   clear NEQ hb
   refine Qah Qav (by kernel_rfl) ?_
   repeat (first
    | (refine Qab (Qak RV.out gl.out) Qb4 rfl (Qgv (Qcd L)) rfl rfl ?_; simp only [sqS,sq0])
    | (refine Qab (Qak RP.out g3l.out) Qan rfl Qaq rfl rfl ?_; simp only [sqS,sq0])
    | go_big_quiet_step ((go_at_call 87; exact Qba (HN.out _))))
   refine wpQuiet_nil ?_
   rintro _ ⟨z,rfl⟩
   have B5:=lH (B4.out.trans (z.h.mono B4.out.size))
   generalize z.w = w5 at *
   clear q0 NEQ'
   go_wp2
   go_ret
   exact ⟨by rw [N.out]; rfl,B5.out⟩
  ·have NEQ' : ∀ u : World,(binOp .neq 25 (.agg #[.int .u8 (Qcp (vecL L) p.1.1.val).1,.int .u16 (Qcp (vecL L) p.1.1.val).2]) (.agg (encP p.1).toArray)).run Tryz.prog u = .ok (.bool false) u:=fun u => by
    refine (NEQ u).trans ?_
    have : (decide ((Qcp (vecL L) p.1.1.val).1 = ((p.1.1.val : Nat) : Int)) && decide ((Qcp (vecL L) p.1.1.val).2 = ((p.1.2.val : Nat) : Int))) = true:=hb
    rw [this]; rfl
   have hb:=lH hb
   clear NEQ
   refine Qah Qav (by kernel_rfl) ?_
   repeat (first
    | (refine Qab (Qak RV.out gl.out) Qb4 rfl (Qgv (Qcd L)) rfl rfl ?_; simp only [sqS,sq0])
    | (refine Qab (Qak RP.out g3l.out) Qan rfl Qaq rfl rfl ?_; simp only [sqS,sq0])
    | go_big_quiet_step ((go_at_call 87; exact Qba (HN.out _))))
   refine wpQuiet_nil ?_
   rintro _ ⟨z,rfl⟩
   have B5:=lH (B4.out.trans (z.h.mono B4.out.size))
   have K5:=lH (K4.out.ext z.h)
   have HI:=lH (HI.out.ext z.h)
   have HPA:=lH (HPA.out.ext z.h)
   have HP1:=lH (HP1.out.ext z.h)
   have HO1:=lH (HO1.out.ext z.h)
   have RV:=lH (Qac RV.out z.h gl.out)
   have gl : Hid (g < z.w.heap.size):=Nat.lt_of_lt_of_le gl.out z.h.size
   generalize z.w = w5 at *
   clear q0 NEQ' B4 K4 RP HN g3l
   have y2 : w5.cell? ⟨g3,2,none⟩ = some (.slice A p.2.1.length c):=K5.out.cell 2
   have BS:=lH (Below.refl w5.heap.size w5)
   go_wp2_with fail
   go_loopw [40] (fun i wr => ∃ k : Nat,k ≤ p.2.1.length ∧ i = .int .i64 k ∧ Hid ((p.2.1.take k).all (hasP (vecL L)) = true) ∧ Hid (Below w5.heap.size w5 wr)) (fun i _ => p.2.1.length - (intOf i).toNat)
   case atStart => exact ⟨0,by omega,rfl,rfl,BS.out⟩
   case round =>
    clear BS
    obtain ⟨k,hk,rfl,TD,B⟩:=hrel
    have hk0 : (0 : Int) ≤ (k : Int):=by omega
    have BW:=lH (B5.out.trans (B.out.mono B5.out.size))
    by_cases hlt : k < p.2.1.length
    ·have hlk : (k : Int) < (p.2.1.length : Int):=by omega
     obtain ⟨b,o,d,rfl,hb',hx,R⟩:=(HP1.out.ext B.out).at_ hlt
     have R:=lH R
     have KZ : Hid (Blk (wr.alloc (.cells #[.int .u8 0,.int .u16 0] 25)) wr.heap.size 25 #[.int .u8 0,.int .u16 0]):=Blk.new _ _ _
     have KD : Hid (Blk ((wr.alloc (.cells #[.int .u8 0,.int .u16 0] 25)).setRow wr.heap.size (encP d).toArray) wr.heap.size 25 (encP d).toArray):=KZ.out.row _
     have BN : Hid (Below wr.heap.size wr ((wr.alloc (.cells #[.int .u8 0,.int .u16 0] 25)).setRow wr.heap.size (encP d).toArray)):=Qad (Qaf wr _) (Nat.le_refl _) _
     have B6:=lH (B.out.trans (BN.out.mono B.out.size))
     have hz1 : (encP d).toArray.all (·.oneCell') = true:=by simp [encP,Value.oneCell']
     go_upto_region 10 with (first
      | (refine wpList_load_mid rfl 25 _ (by rfl) b (o + k * 2) (by rfl) _ _ R.out Qan rfl Qaq ?_)
      | (refine Qam (allocPI _) ?_)
      | (refine wpList_store_row rfl 25 _ _ (by rfl) wr.heap.size (encP d).toArray (by rfl) (by rfl) _ _ KZ.out Qaq rfl hz1 ?_))
     generalize ((wr.alloc (.cells #[.int .u8 0,.int .u16 0] 25)).setRow wr.heap.size (encP d).toArray) = w6 at *
     clear KZ BN R hz1
     generalize wr.heap.size = gd at *
     simp only [Act.put,sqA,sq0,sqS]
     have RD:=lH (Qau KD.out)
     have gdl : Hid (gd < w6.heap.size):=KD.out.lt
     have RV6:=lH (Qac RV.out B6.out gl.out)
     have gl6 : Hid (g < w6.heap.size):=Nat.lt_of_lt_of_le gl.out B6.out.size
     have HHd:=lH (HH.out d)
     cases hhd : hasP (vecL L) d
     ·rw [hhd] at HHd
      have N:=lH (grE_9d hg.out hh.out hb.out (Qey hx hhd))
      clear hhd hx TD
      refine Qah Qav (by kernel_rfl) ?_
      repeat (first
       | (refine Qab (Qak RV6.out gl6.out) Qb4 rfl (Qgv (Qcd L)) rfl rfl ?_; simp only [sqS,sq0])
       | (refine Qab (Qak RD.out gdl.out) Qan rfl Qaq rfl rfl ?_; simp only [sqS,sq0])
       | go_big_quiet_step ((go_at_call 86; exact Qba (HHd.out _))))
      refine wpQuiet_nil ?_
      rintro _ ⟨z,rfl⟩
      have B7:=lH (B5.out.trans ((B6.out.trans (z.h.mono B6.out.size)).mono B5.out.size))
      generalize z.w = w7 at *
      go_wp2
      go_ret
      exact ⟨by rw [N.out]; rfl,B7.out⟩
     ·rw [hhd] at HHd
      have N:=lH (Qg0 hx TD.out hhd)
      clear hhd hx TD
      refine Qah Qav (by kernel_rfl) ?_
      repeat (first
       | (refine Qab (Qak RV6.out gl6.out) Qb4 rfl (Qgv (Qcd L)) rfl rfl ?_; simp only [sqS,sq0])
       | (refine Qab (Qak RD.out gdl.out) Qan rfl Qaq rfl rfl ?_; simp only [sqS,sq0])
       | go_big_quiet_step ((go_at_call 86; exact Qba (HHd.out _))))
      refine wpQuiet_nil ?_
      rintro _ ⟨z,rfl⟩
      have B7:=lH (B6.out.trans (z.h.mono B6.out.size))
      generalize z.w = w7 at *
      clear RV6 gl6 RD gdl KD B6
      go_wp2_with fail
      go_roundw
      case rel => exact ⟨k + 1,by omega,by go_num,N.out,B7.out⟩
      case measure => simp [intOf]; omega
    ·have hlk : ¬ (k : Int) < (p.2.1.length : Int):=by omega
     rw [List.take_of_length_le (by omega)] at TD
     have KR:=lH (K5.out.ext B.out)
     have y3 : wr.cell? ⟨g3,3,none⟩ = some (.slice A' p.2.2.length c'):=KR.out.cell 3
     have HIr:=lH (HI.out.ext B.out)
     have HPr:=lH (HPA.out.ext B.out)
     have HOr:=lH (HO1.out.ext B.out)
     have hnn:=lH (HI.out.ok.hasnt hh.out)
     generalize wr = w8 at *
     clear HI HPA HP1 HO1 RV gl B K5 HH B5 y2
     have BS:=lH (Below.refl w8.heap.size w8)
     go_wp2_with fail
     go_loopw [55] (fun i wr => ∃ k : Nat,k ≤ p.2.2.length ∧ i = .int .i64 k ∧ Hid ((p.2.2.take k).all (refB (rawV (L ++ [p]))) = true) ∧ Hid (Below w8.heap.size w8 wr)) (fun i _ => p.2.2.length - (intOf i).toNat)
     case atStart => exact ⟨0,by omega,rfl,rfl,BS.out⟩
     case round =>
      clear BS
      obtain ⟨j,hj,rfl,TR,B⟩:=hrel
      have hj0 : (0 : Int) ≤ (j : Int):=by omega
      by_cases hjt : j < p.2.2.length
      ·have hjk : (j : Int) < (p.2.2.length : Int):=by omega
       obtain ⟨b,oo,o,rfl,hb',hx,R,_⟩:=(HOr.out.ext B.out).at_ hjt
       have R:=lH R
       have KZ : Hid (Blk (wr.alloc (.cells #[.int .u8 0,.int .u8 0,.int .u16 0,.int .u8 0,.int .u8 0,.int .u16 0,.int .u8 0,.string ByteArray.empty] 70)) wr.heap.size 70 #[.int .u8 0,.int .u8 0,.int .u16 0,.int .u8 0,.int .u8 0,.int .u16 0,.int .u8 0,.string ByteArray.empty]):=Blk.new _ _ _
       have KO : Hid (Blk ((wr.alloc (.cells #[.int .u8 0,.int .u8 0,.int .u16 0,.int .u8 0,.int .u8 0,.int .u16 0,.int .u8 0,.string ByteArray.empty] 70)).setRow wr.heap.size (encO o).toArray) wr.heap.size 70 (encO o).toArray):=KZ.out.row _
       have BN : Hid (Below wr.heap.size wr ((wr.alloc (.cells #[.int .u8 0,.int .u8 0,.int .u16 0,.int .u8 0,.int .u8 0,.int .u16 0,.int .u8 0,.string ByteArray.empty] 70)).setRow wr.heap.size (encO o).toArray)):=Qad (Qaf wr _) (Nat.le_refl _) _
       have B6:=lH (B.out.trans (BN.out.mono B.out.size))
       go_upto_region 16 with (first
        | (refine wpList_load_mid rfl 70 _ (by rfl) b (oo + j * 8) (by rfl) _ _ R.out Qck rfl Qcf ?_)
        | (refine Qam (allocOp _) ?_)
        | (refine wpList_store_row rfl 70 _ _ (by rfl) wr.heap.size (encO o).toArray (by rfl) (by rfl) _ _ KZ.out Qcf rfl (by simp [encO,Value.oneCell']) ?_))
       generalize ((wr.alloc (.cells #[.int .u8 0,.int .u8 0,.int .u16 0,.int .u8 0,.int .u8 0,.int .u16 0,.int .u8 0,.string ByteArray.empty] 70)).setRow wr.heap.size (encO o).toArray) = w9 at *
       clear KZ BN R
       generalize wr.heap.size = go at *
       have K9:=lH (KR.out.ext B6.out)
       have HR:=lH (refs20_any (HIr.out.mem.ext B6.out) p hnn.out _ (HPr.out.ext B6.out) o)
       cases hr : refB (rawV (L ++ [p])) o
       ·rw [hr] at HR
        have N:=lH (grE_10 hg.out hh.out hb.out TD.out (Qey hx hr))
        clear hr hx TR
        go_wp2_with (first
         | (refine wpList_load_row rfl 64 _ (by rfl) g3 (by rfl) _ _ _ _ K9.out Qbf rfl Qa7 ?_)
         | (refine wpList_load_row rfl 70 _ (by rfl) go (by rfl) _ _ _ _ KO.out Qck rfl Qcf ?_))
        refine HR.out.mono ?_
        rintro e w10 ⟨rfl,b10⟩
        have B10:=lH (BW.out.trans ((B6.out.trans (b10.mono B6.out.size)).mono BW.out.size))
        clear b10
        go_wp2
        go_ret
        exact ⟨by rw [N.out]; rfl,B10.out⟩
       ·rw [hr] at HR
        have N:=lH (Qg0 hx TR.out hr)
        clear hr hx TR
        go_wp2_with (first
         | (refine wpList_load_row rfl 64 _ (by rfl) g3 (by rfl) _ _ _ _ K9.out Qbf rfl Qa7 ?_)
         | (refine wpList_load_row rfl 70 _ (by rfl) go (by rfl) _ _ _ _ KO.out Qck rfl Qcf ?_))
        refine HR.out.mono ?_
        rintro e w10 ⟨rfl,b10⟩
        have B10:=lH (B6.out.trans (b10.mono B6.out.size))
        clear b10 HR K9 KO B6 B
        go_wp2_with fail
        go_roundw
        case rel => exact ⟨j + 1,by omega,by go_num,N.out,B10.out⟩
        case measure => simp [intOf]; omega
      ·have hjk : ¬ (j : Int) < (p.2.2.length : Int):=by omega
       rw [List.take_of_length_le (by omega)] at TR
       have N:=lH (grE_0 hg.out hh.out hb.out TD.out TR.out)
       have BF:=lH (BW.out.trans (B.out.mono BW.out.size))
       go_wp2
       go_ret
       exact ⟨by rw [N.out]; rfl,BF.out⟩
 ·rw [hh] at HHp
  have N:=lH (grE_7 hg.out hh)
  clear hh
  refine Qah Qav (by kernel_rfl) ?_
  repeat (first
   | (refine Qab (Qak RV.out gl.out) Qb4 rfl (Qgv (Qcd L)) rfl rfl ?_; simp only [sqS,sq0])
   | (refine Qab (Qak RP.out g3l.out) Qan rfl Qaq rfl rfl ?_; simp only [sqS,sq0])
   | go_big_quiet_step ((go_at_call 86; exact Qba (HHp.out _))))
  refine wpQuiet_nil ?_
  rintro _ ⟨z,rfl⟩
  have B4:=lH (B3.out.trans (z.h.mono B3.out.size))
  generalize z.w = w4 at *
  go_wp2
  go_ret
  exact ⟨by rw [N.out]; rfl,B4.out⟩
end Go.Proofs.YtdafiipedlglpaaGreat
