/- A graph: all vertices, those of a file, all files; all steps, those of a file: walked. -/
import Derived.Test.YtdafiipedlglpaaGreatGrk
import Derived.Test.YtdafiipedlglpaaGreatVids
namespace Go.Proofs.YtdafiipedlglpaaGreat
open Go.RowKit

def filesL (L : List PatV) : List VidV:=((Qcz L).filter fun x => decide (x.2.1.val = 1)).map (·.1)
def ofL (L : List PatV) (file : VidV) (kind : Nat) : List Qa4:=(Qcz L).filter fun x => decide (x.2.1.val = kind) && decide (x.2.2.1 = file)
def Qef (L : List PatV) (file : VidV) : List Qbv:=(Qd4 L).filter fun e => decide (Qb6 L e.1 = file)
set_option maxRecDepth 100000 in
set_option maxHeartbeats 1000000 in
theorem steps1_any (v x : VidV) (g : Nat) (w : World) (K : Blk w g 27 (encV v).toArray) : Calls Tryz.prog 64 #[.agg (encV x).toArray,.pointer (some ⟨g,0,none⟩)] w (RetB w (.bool (decide (x = v)))):=by
 have B0 : Hid (Below w.heap.size w (w.alloc (.cells (encV x).toArray 27))):=Qaf _ _
 have K0 : Hid (Blk (w.alloc (.cells (encV x).toArray 27)) w.heap.size 27 (encV x).toArray):=Blk.new _ _ _
 have KG:=lH (K.ext B0.out)
 have EQ:=fun u => eqlV x v u
 clear K
 go_enter Tryz.func64,Tryz.ntmps64
 go_wp2_with (first
  | (refine wpList_load_row rfl 27 _ (by rfl) w.heap.size (by rfl) _ _ _ _ K0.out Qaj rfl Qal ?_)
  | (refine wpList_load_row rfl 27 _ (by rfl) g (by rfl) _ _ _ _ KG.out Qaj rfl Qal ?_))
 go_ret
 exact ⟨rfl,B0.out⟩
set_option maxRecDepth 100000 in
set_option maxHeartbeats 1000000 in
theorem of1_any (v : VidV) (kd : Nat) (x : Qa4) (gk gf : Nat) (w : World) (Kk : w.cell? ⟨gk,0,none⟩ = some (.int .u8 (kd : Int)) ∧ gk < w.heap.size) (K : Blk w gf 27 (encV v).toArray) : Calls Tryz.prog 60 #[.agg (encX x).toArray,.pointer (some ⟨gk,0,none⟩),.pointer (some ⟨gf,0,none⟩)] w (RetB w (.bool (decide (x.2.1.val = kd) && decide (x.2.2.1 = v)))):=by
 have B0 : Hid (Below w.heap.size w (w.alloc (.cells (encX x).toArray 56))):=Qaf _ _
 have K0 : Hid (Blk (w.alloc (.cells (encX x).toArray 56)) w.heap.size 56 (encX x).toArray):=Blk.new _ _ _
 have KG:=lH (K.ext B0.out)
 have yk : (w.alloc (.cells (encX x).toArray 56)).cell? ⟨gk,0,none⟩ = some (.int .u8 (kd : Int)):=(B0.out.cell (p:=⟨gk,0,none⟩) Kk.2).trans Kk.1
 have EQ:=fun u => eqlV x.2.2.1 v u
 have RX:=lH (vx_file (Qau K0.out))
 rw [Nat.zero_add] at RX
 clear K Kk
 go_enter Tryz.func60,Tryz.ntmps60
 go_upto_region 1 with fail
 generalize (w.alloc (.cells (encX x).toArray 56)) = w2 at *
 have y : w2.cell? ⟨w.heap.size,3,none⟩ = some (.int .u8 ((x.2.1.val : Nat) : Int)):=K0.out.cell 3
 by_cases h : x.2.1.val = kd
 ·have z : (((x.2.1.val : Nat) : Int) == (kd : Int)) = true:=by rw [beq_iff_eq]; omega
  have E : Hid ((decide (x.2.1.val = kd) && decide (x.2.2.1 = v)) = decide (x.2.2.1 = v)):=by rw [Hid,dqT h,Bool.true_and]
  replace h:=lH h
  go_wp2_with (first
   | (refine Qbn (by kernel_rfl) 27 _ (by rfl) w.heap.size 4 (by rfl) _ _ RX.out Qaj rfl Qal ?_)
   | (refine Qa6 (by kernel_rfl) 27 _ (by rfl) gf (by rfl) _ _ _ _ KG.out Qaj rfl Qal ?_))
  go_ret
  exact ⟨Qag E.out.symm,B0.out⟩
 ·have z : (((x.2.1.val : Nat) : Int) == (kd : Int)) = false:=by rw [beq_eq_false_iff_ne]; omega
  have E : Hid ((decide (x.2.1.val = kd) && decide (x.2.2.1 = v)) = false):=by rw [Hid,dqF h,Bool.false_and]
  replace h:=lH h
  go_wp2
  go_ret
  exact ⟨Qag E.out.symm,B0.out⟩
section
variable {w : World} {F : Nat → Prop} {g : Nat} {L : List PatV}
set_option maxRecDepth 100000 in
set_option maxHeartbeats 1000000 in
theorem of20_any (hI : GraphAt w F g L) (hfew : L.length ≤ 400) (v : VidV) (kd : Nat) : Calls Tryz.prog 30 #[.pointer (some ⟨g,0,none⟩),.agg (encV v).toArray,.int .u8 (kd : Int)] w (OwnedRet w 56 9 (ofL L v kd).length ((ofL L v kd).flatMap encX)):=by
 have K1 : Hid (Blk ((w.alloc (.cells (encV v).toArray 27)).alloc (.cells #[.int .u8 (kd : Int)] 5)) w.heap.size 27 (encV v).toArray):=(Blk.new _ _ _).alloc _
 have K2 : Hid (Blk ((w.alloc (.cells (encV v).toArray 27)).alloc (.cells #[.int .u8 (kd : Int)] 5)) (w.heap.size + 1) 5 #[.int .u8 (kd : Int)]):=Blk.newAt (by simp) _ _
 have B0 : Hid (Below w.heap.size w ((w.alloc (.cells (encV v).toArray 27)).alloc (.cells #[.int .u8 (kd : Int)] 5))):=((Below.refl _ _).alloc (Nat.le_refl _) _).alloc (by simp) _
 have HI:=lH (hI.ext B0.out)
 clear hI
 have E : Hid (ofL L v kd = (Qcz L).filter fun x => decide (x.2.1.val = kd) && decide (x.2.2.1 = v)):=rfl
 go_enter Tryz.func30,Tryz.ntmps30
 go_upto_region 1 with fail
 generalize ((w.alloc (.cells (encV v).toArray 27)).alloc (.cells #[.int .u8 (kd : Int)] 5)) = w2 at *
 have HS:=lH (some20_any HI.out hfew (fun x => decide (x.2.1.val = kd) && decide (x.2.2.1 = v)) 60 (enters_of Tryz.func60 (by kernel_rfl) rfl) #[.pointer (some ⟨w.heap.size + 1,0,none⟩),.pointer (some ⟨w.heap.size,0,none⟩)] fun x wr hb => of1_any v kd x (w.heap.size + 1) w.heap.size wr ⟨(K2.out.ext hb).cell 0,(K2.out.ext hb).lt⟩ (K1.out.ext hb))
 rw [← E.out] at HS
 clear K1 K2 HI E
 generalize ofL L v kd = l at *
 go_wp2_with fail
 refine HS.out.mono ?_
 rintro e w3 ⟨u,rfl,o,b⟩
 have O:=lH (Qbk o B0.out.size)
 have B:=lH (B0.out.trans (b.mono B0.out.size))
 clear o b HS
 go_wp2
 go_ret
 exact ⟨_,rfl,O.out,B.out⟩
set_option maxRecDepth 100000 in
set_option maxHeartbeats 1000000 in
theorem stepsOf20_any (hI : GraphAt w F g L) (hfew : L.length ≤ 400) (v : VidV) : Calls Tryz.prog 35 #[.pointer (some ⟨g,0,none⟩),.agg (encV v).toArray] w (OwnedRet w 88 6 (Qef L v).length ((Qef L v).flatMap encE)):=by
 have K1 : Hid (Blk (w.alloc (.cells (encV v).toArray 27)) w.heap.size 27 (encV v).toArray):=Blk.new _ _ _
 have B0 : Hid (Below w.heap.size w (w.alloc (.cells (encV v).toArray 27))):=Qaf _ _
 have HI:=lH (hI.ext B0.out)
 clear hI
 have E : Hid (Qef L v = (Qd4 L).filter fun e => decide (Qb6 L e.1 = v)):=rfl
 go_enter Tryz.func35,Tryz.ntmps35
 go_upto_region 1 with fail
 generalize (w.alloc (.cells (encV v).toArray 27)) = w2 at *
 have HS:=lH (steps20_any HI.out hfew (fun x => decide (x = v)) 64 (enters_of Tryz.func64 (by kernel_rfl) rfl) #[.pointer (some ⟨w.heap.size,0,none⟩)] fun x wr hb => steps1_any v x w.heap.size wr (K1.out.ext hb))
 rw [← E.out] at HS
 clear K1 HI E
 generalize Qef L v = l at *
 go_wp2_with fail
 refine HS.out.mono ?_
 rintro e w3 ⟨u,rfl,o,b⟩
 have O:=lH (Qbk o B0.out.size)
 have B:=lH (B0.out.trans (b.mono B0.out.size))
 clear o b HS
 go_wp2
 go_ret
 exact ⟨_,rfl,O.out,B.out⟩
theorem vertsL_few (hG : GrOk L) (hfew : L.length ≤ 400) : (Qcz L).length ≤ 80000:=by
 have h1 : (Qcz L).length ≤ (Qdr L).length:=by unfold Qcz idsL; rw [List.length_map]; exact Qej _
 have h2 : (Qdr L).length ≤ opsN L:=by
  unfold Qdr opsN
  have : ∀ M : List PatV,(M.flatMap idsP).length ≤ (M.map fun p => p.2.2.length).sum:=by
   intro M
   induction M with
   | nil => simp
   | cons p M ih =>
    rw [List.flatMap_cons,List.length_append,List.map_cons,List.sum_cons]
    have : (idsP p).length ≤ p.2.2.length:=by
     unfold idsP
     refine Nat.le_trans (List.length_filterMap_le _ _) ?_
     rw [List.length_range]
     exact Nat.le_refl _
    omega
  exact this L
 have:=hG.opsN
 omega
end
end Go.Proofs.YtdafiipedlglpaaGreat
