/- The document's vector with one patch more; which patches of a list there are: walked. -/
import Derived.Test.YtdafiipedlglpaaGreatIdxz
namespace Go.Proofs.YtdafiipedlglpaaGreat
open Go.RowKit

theorem neqXY (a b c d : Int) (w : World) : (binOp .neq 25 (.agg #[.int .u8 a,.int .u16 b]) (.agg #[.int .u8 c,.int .u16 d])).run Tryz.prog w = .ok (.bool (!(decide (a = c) && decide (b = d)))) w:=by
 simp [go_sem]
 by_cases h1 : a = c
 ·by_cases h2 : b = d <;> simp [h1,h2]
 ·simp [h1]
set_option maxRecDepth 100000 in
set_option maxHeartbeats 4000000 in
theorem rput12_any (a : List Int) (ha : VecOk a) (d : PidV) (w : World) :
  Calls Tryz.prog 130 #[.agg (vecA a),.agg (encP d).toArray] w (RetB w (.tuple #[.agg (vecA (putW a d)),.bool (putB a d)])):=by
 have HN:=lH (fun w0 => rnext_any a ha d.1.val w0)
 have hs1 : Hid ((vecA a).size = 64):=by rw [Hid,Qbi]; exact ha.len
 have hs2 : Hid ((vecA vec0).size = 64):=by rw [Hid,Qbi]; exact vec0_ok.len
 have h1:=lH (Qf5 a)
 have K1 : Hid (Blk (((w.alloc (.cells (vecA a) 109)).alloc (.cells (encP d).toArray 25)).alloc (.cells (vecA vec0) 109)) w.heap.size 109 (vecA a)):=((Blk.new _ _ _).alloc _).alloc _
 have K2 : Hid (Blk (((w.alloc (.cells (vecA a) 109)).alloc (.cells (encP d).toArray 25)).alloc (.cells (vecA vec0) 109)) (w.heap.size + 1) 25 (encP d).toArray):=(Blk.newAt (by simp) _ _).alloc _
 have K3 : Hid (Blk (((w.alloc (.cells (vecA a) 109)).alloc (.cells (encP d).toArray 25)).alloc (.cells (vecA vec0) 109)) (w.heap.size + 1 + 1) 109 (vecA vec0)):=Blk.newAt (by simp) _ _
 have B0 : Hid (Below w.heap.size w (((w.alloc (.cells (vecA a) 109)).alloc (.cells (encP d).toArray 25)).alloc (.cells (vecA vec0) 109))):=
  (((Below.refl _ _).alloc (Nat.le_refl _) _).alloc (by simp) _).alloc (by simp; omega) _
 have PV : Hid (putW a d = if putB a d = true then a.set (d.1.val - 1) ((d.2.val : Nat) : Int) else a):=rfl
 have PB : Hid (putB a d = (!(decide (d.1.val = 0) && decide (((d.2.val : Nat) : Int) = 0)) && (decide ((Qcp a d.1.val).1 = ((d.1.val : Nat) : Int)) && decide ((Qcp a d.1.val).2 = ((d.2.val : Nat) : Int))))):=rfl
 have PI : Hid (putB a d = true → inV d.1.val = true ∧ ofV a d.1.val < 60000 ∧ ((d.2.val : Nat) : Int) = ofV a d.1.val + 1):=Qh7
 have hget:=lH (vecA_get a (d.1.val - 1))
 have PT:=lH (vecA_set a (d.1.val - 1) ((d.2.val : Nat) : Int))
 have SS : Hid ((vecA (a.set (d.1.val - 1) ((d.2.val : Nat) : Int))).size = 64):=by rw [Hid,Qbi,List.length_set]; exact ha.len
 have S1:=lH (Qf5 (a.set (d.1.val - 1) ((d.2.val : Nat) : Int)))
 have hlen:=lH ha.len
 have NEQ:=fun u => neqXY (Qcp a d.1.val).1 (Qcp a d.1.val).2 ((d.1.val : Nat) : Int) ((d.2.val : Nat) : Int) u
 clear ha
 generalize Qcp a d.1.val = xy at *
 obtain ⟨x,y⟩:=xy
 go_enter Tryz.func130,Tryz.ntmps130
 go_upto_region 1 with (refine Qam (alloc64 _) ?_)
 generalize (((w.alloc (.cells (vecA a) 109)).alloc (.cells (encP d).toArray 25)).alloc (.cells (vecA vec0) 109)) = w0 at *
 have q0 : ∀ z : Ext w0,z.w.cell? ⟨w.heap.size + 1,0,none⟩ = some (.int .u8 ((d.1.val : Nat) : Int)):=fun z => (K2.out.ext z.h).cell 0
 by_cases hP : putB a d = true
 ·have PV':=lH (PV.out.trans (if_pos hP))
  obtain ⟨i1,i2,i3⟩:=PI.out hP
  have hn1 : 1 ≤ d.1.val ∧ d.1.val ≤ 64:=by unfold inV at i1; simpa using i1
  obtain ⟨n1,n2⟩:=hn1
  have n1' : ¬ ((d.1.val : Nat) : Int) < 1:=by omega
  have n2' : ¬ (64 : Int) < ((d.1.val : Nat) : Int):=by omega
  have dn1 : decide (((d.1.val : Nat) : Int) < 1) = false:=dqF n1'
  have dn2 : decide ((64 : Int) < ((d.1.val : Nat) : Int)) = false:=dqF n2'
  have hP':=hP
  rw [PB.out] at hP'
  simp only [Bool.and_eq_true,decide_eq_true_eq] at hP'
  have NEQ' : ∀ u : World,(binOp .neq 25 (.agg #[.int .u8 x,.int .u16 y]) (.agg (encP d).toArray)).run Tryz.prog u = .ok (.bool false) u:=fun u => by
   refine (NEQ u).trans ?_
   rw [dqT hP'.2.1,dqT hP'.2.2]; rfl
  have hPB:=lH hP
  clear NEQ hP' hP PV PI i1 i2 i3 PB
  refine Qah mixed (by kernel_rfl) ?_
  repeat (first
   | go_big_quiet_skip
   | (refine Qb9 K1.out Qb4 rfl (by rw [hs1.out]; exact Qcl) rfl rfl ?_; simp only [sqS,sq0])
   | (refine Qb9 K2.out Qan rfl Qaq rfl rfl ?_; simp only [sqS,sq0])
   | go_big_quiet_step ((go_at_call 91; exact Qba (HN.out _))))
  refine wpQuiet_nil ?_
  rintro _ ⟨z,rfl⟩
  have B1:=lH (B0.out.trans (z.h.mono B0.out.size))
  have L1:=lH (K1.out.ext z.h)
  have L2:=lH (K2.out.ext z.h)
  have L3:=lH (K3.out.ext z.h)
  clear q0
  generalize z.w = w1 at *
  have p0 : w1.cell? ⟨w.heap.size + 1,0,none⟩ = some (.int .u8 ((d.1.val : Nat) : Int)):=L2.out.cell 0
  have p1 : w1.cell? ⟨w.heap.size + 1,1,none⟩ = some (.int .u16 ((d.2.val : Nat) : Int)):=L2.out.cell 1
  obtain ⟨k,hk⟩ : ∃ k,d.1.val - 1 = k:=⟨_,rfl⟩
  have ek : ((d.1.val : Nat) : Int) - 1 = (k : Int):=by omega
  rw [hk] at PT SS S1 hget PV'
  have c1:=L1.out.cell k
  rw [hget.out (by rw [hlen.out]; omega)] at c1
  have f1:=L1.out.fr k
  have k1 : (k : Int) < 64:=by omega
  have k0 : (0 : Int) ≤ (k : Int):=by omega
  have m1:=L1.out.set_ k (.int .u16 ((d.2.val : Nat) : Int))
  rw [PT.out] at m1
  have M1:=lH m1
  clear m1 hk
  have L4:=lH (L3.out.far (p:=⟨w.heap.size,k,none⟩) (by show w.heap.size + 1 + 1 ≠ w.heap.size; omega) (.int .u16 ((d.2.val : Nat) : Int)))
  have B2:=lH (B1.out.setCell (p:=⟨w.heap.size,k,none⟩) (Nat.le_refl _) (.int .u16 ((d.2.val : Nat) : Int)))
  clear L1 L3 B1 L2
  go_wp2_with (first
   | (refine wpList_load_row rfl 109 _ (by rfl) w.heap.size (by rfl) _ _ _ _ M1.out Qb4 rfl (by rw [SS.out]; exact Qcl) ?_)
   | (refine wpList_store_row rfl 109 _ _ (by rfl) (w.heap.size + 1 + 1) _ (by rfl) (by rfl) _ _ L4.out (by rw [SS.out]; exact Qcl) (by rw [SS.out,hs2.out]) S1.out ?_))
  refine bodyPost_ret (Qa1 rfl _ _ (w.heap.size + 1 + 1) _ (vecA (a.set k ((d.2.val : Nat) : Int))) _ rfl (L4.out.row _) Qb4 rfl (by rw [SS.out]; exact Qcl)) rfl ?_
  refine ⟨?_,Qad B2.out (by omega) _⟩
  rw [hPB.out,PV'.out]
  rfl
 ·have hP : putB a d = false:=by simpa using hP
  have PV' : Hid (putW a d = a):=PV.out.trans (if_neg (by rw [hP]; simp))
  have hPB:=lH hP
  have CS : Hid (((d.1.val : Nat) : Int) < 1 ∨ (64 : Int) < ((d.1.val : Nat) : Int) ∨ (¬ ((d.1.val : Nat) : Int) < 1 ∧ ¬ (64 : Int) < ((d.1.val : Nat) : Int) ∧ (decide (x = ((d.1.val : Nat) : Int)) && decide (y = ((d.2.val : Nat) : Int))) = false)):=by
   by_cases c1 : ((d.1.val : Nat) : Int) < 1
   ·exact .inl c1
   ·by_cases c2 : (64 : Int) < ((d.1.val : Nat) : Int)
    ·exact .inr (.inl c2)
    ·refine .inr (.inr ⟨c1,c2, ?_⟩)
     have h0 : decide (d.1.val = 0) = false:=dqF (by omega)
     rw [PB.out,h0] at hP
     simpa using hP
  clear hP PV PI PB
  rcases CS.out with c1 | c2 | ⟨c1,c2,c3⟩
  case inl =>
   have dn1 : decide (((d.1.val : Nat) : Int) < 1) = true:=dqT c1
   clear NEQ CS
   refine Qah mixed (by kernel_rfl) ?_
   repeat (first
    | go_big_quiet_skip
    | go_big_quiet_step (fail))
   refine wpQuiet_nil ?_
   rintro _ ⟨z,rfl⟩
   have B1:=lH (B0.out.trans (z.h.mono B0.out.size))
   have L1:=lH (K1.out.ext z.h)
   have L3:=lH (K3.out.ext z.h)
   clear q0
   generalize z.w = w1 at *
   go_wp2_with (first
    | (refine wpList_load_row rfl 109 _ (by rfl) w.heap.size (by rfl) _ _ _ _ L1.out Qb4 rfl (by rw [hs1.out]; exact Qcl) ?_)
    | (refine wpList_store_row rfl 109 _ _ (by rfl) (w.heap.size + 1 + 1) _ (by rfl) (by rfl) _ _ L3.out (by rw [hs1.out]; exact Qcl) (by rw [hs1.out,hs2.out]) h1.out ?_))
   refine bodyPost_ret (Qa1 rfl _ _ (w.heap.size + 1 + 1) _ (vecA a) _ rfl (L3.out.row _) Qb4 rfl (by rw [hs1.out]; exact Qcl)) rfl ?_
   refine ⟨?_,Qad B1.out (by omega) _⟩
   rw [PV'.out]
   first | rfl | (rw [hPB.out]; rfl)
  case inr.inl =>
   have n1' : ¬ ((d.1.val : Nat) : Int) < 1:=by omega
   have dn1 : decide (((d.1.val : Nat) : Int) < 1) = false:=dqF n1'
   have dn2 : decide ((64 : Int) < ((d.1.val : Nat) : Int)) = true:=dqT c2
   clear NEQ CS
   refine Qah mixed (by kernel_rfl) ?_
   repeat (first
    | go_big_quiet_skip
    | go_big_quiet_step (fail))
   refine wpQuiet_nil ?_
   rintro _ ⟨z,rfl⟩
   have B1:=lH (B0.out.trans (z.h.mono B0.out.size))
   have L1:=lH (K1.out.ext z.h)
   have L3:=lH (K3.out.ext z.h)
   clear q0
   generalize z.w = w1 at *
   go_wp2_with (first
    | (refine wpList_load_row rfl 109 _ (by rfl) w.heap.size (by rfl) _ _ _ _ L1.out Qb4 rfl (by rw [hs1.out]; exact Qcl) ?_)
    | (refine wpList_store_row rfl 109 _ _ (by rfl) (w.heap.size + 1 + 1) _ (by rfl) (by rfl) _ _ L3.out (by rw [hs1.out]; exact Qcl) (by rw [hs1.out,hs2.out]) h1.out ?_))
   refine bodyPost_ret (Qa1 rfl _ _ (w.heap.size + 1 + 1) _ (vecA a) _ rfl (L3.out.row _) Qb4 rfl (by rw [hs1.out]; exact Qcl)) rfl ?_
   refine ⟨?_,Qad B1.out (by omega) _⟩
   rw [PV'.out]
   first | rfl | (rw [hPB.out]; rfl)
  case inr.inr =>
   have dn1 : decide (((d.1.val : Nat) : Int) < 1) = false:=dqF c1
   have dn2 : decide ((64 : Int) < ((d.1.val : Nat) : Int)) = false:=dqF c2
   have NEQ' : ∀ u : World,(binOp .neq 25 (.agg #[.int .u8 x,.int .u16 y]) (.agg (encP d).toArray)).run Tryz.prog u = .ok (.bool true) u:=fun u => by
    refine (NEQ u).trans ?_
    rw [c3]; rfl
   clear NEQ CS c3
   refine Qah mixed (by kernel_rfl) ?_
   repeat (first
    | go_big_quiet_skip
    | (refine Qb9 K1.out Qb4 rfl (by rw [hs1.out]; exact Qcl) rfl rfl ?_; simp only [sqS,sq0])
    | (refine Qb9 K2.out Qan rfl Qaq rfl rfl ?_; simp only [sqS,sq0])
    | go_big_quiet_step ((go_at_call 91; exact Qba (HN.out _))))
   refine wpQuiet_nil ?_
   rintro _ ⟨z,rfl⟩
   have B1:=lH (B0.out.trans (z.h.mono B0.out.size))
   have L1:=lH (K1.out.ext z.h)
   have L3:=lH (K3.out.ext z.h)
   clear q0
   generalize z.w = w1 at *
   go_wp2_with (first
    | (refine wpList_load_row rfl 109 _ (by rfl) w.heap.size (by rfl) _ _ _ _ L1.out Qb4 rfl (by rw [hs1.out]; exact Qcl) ?_)
    | (refine wpList_store_row rfl 109 _ _ (by rfl) (w.heap.size + 1 + 1) _ (by rfl) (by rfl) _ _ L3.out (by rw [hs1.out]; exact Qcl) (by rw [hs1.out,hs2.out]) h1.out ?_))
   refine bodyPost_ret (Qa1 rfl _ _ (w.heap.size + 1 + 1) _ (vecA a) _ rfl (L3.out.row _) Qb4 rfl (by rw [hs1.out]; exact Qcl)) rfl ?_
   refine ⟨?_,Qad B1.out (by omega) _⟩
   rw [PV'.out]
   first | rfl | (rw [hPB.out]; rfl)
end Go.Proofs.YtdafiipedlglpaaGreat
