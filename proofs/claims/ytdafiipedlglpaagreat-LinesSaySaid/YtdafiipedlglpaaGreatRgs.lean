/- Texts of general use, one behind another. -/
import Derived.Test.YtdafiipedlglpaaGreatRgab
import Derived.Test.YtdafiipedlglpaaGreatGrm
import Derived.Test.YtdafiipedlglpaaGreatIdxn
import Derived.Test.YtdafiipedlglpaaGreatVids
import Derived.Test.YtdafiipedlglpaaGreatPaws
import Derived.Test.YtdafiipedlglpaaGreatVst

/- The document's graph: an error, the steps, the names: plain laws; no program in sight. -/
namespace Go.Proofs.YtdafiipedlglpaaGreat
open Go.RowKit

theorem hasR20_vec {L : List PatV} (hG : GrOk L) (d : PidV) : Qdm L d = hasP (vecL L) d:=by
 rw [Bool.eq_iff_iff,hG.idx.has]
 unfold Qdm
 rw [List.any_eq_true]
 exact ⟨fun ⟨q,hq,e⟩ => ⟨q,hq,of_decide_eq_true e⟩,fun ⟨q,hq,e⟩ => ⟨q,hq,dqT e⟩⟩
def isR (A : List PatV) (v : VidV) (k : Nat) : Bool:=(Qbo A v).isSome && decide ((Qb1 A v).2.1.val = k)
theorem isR_eq (A : List PatV) (v : VidV) (k : Nat) : isR A v k = Qdx (rawV A) v k:=by
 unfold isR Qb1 Qbo Qdx
 cases rawV A v <;> rfl
theorem vertV_raw (A : List PatV) (v : VidV) : (Qbo A v).isSome = (rawV A v).isSome:=by
 unfold Qbo
 cases rawV A v <;> rfl
theorem vertD_file (A : List PatV) (v : VidV) : (Qb1 A v).2.2.1 = fileF (rawV A) v:=by
 unfold Qb1 Qbo fileF
 cases rawV A v <;> rfl
def opR (A : List PatV) (o : OpV) : Bool:=
 if o.1.val ≠ 1 ∧ (Qbo A o.2.1).isSome = false then false
 else if (o.1.val = 2 ∨ o.1.val = 3) ∧ (Qb1 A o.2.1).2.1.val ≠ 1 then false
 else if o.1.val = 4 ∧ (isR A o.2.1 3 = false ∨ isR A o.2.2.1 3 = false ∨ (Qb1 A o.2.1).2.2.1 ≠ (Qb1 A o.2.2.1).2.2.1) then false
 else true
theorem opR_ref {A : List PatV} {o : OpV} (h : 1 ≤ o.1.val ∧ o.1.val ≤ 5) : opR A o = refB (rawV A) o:=by
 unfold opR refB
 by_cases c2 : o.1.val = 2 ∨ o.1.val = 3
 ·rw [if_pos c2,← isR_eq]
  unfold isR
  cases hs : (Qbo A o.2.1).isSome
  ·rw [if_pos ⟨by omega,rfl⟩]; rfl
  ·rw [if_neg (by simp)]
   by_cases hk : (Qb1 A o.2.1).2.1.val = 1
   ·rw [if_neg (by simp [hk]),if_neg (by omega),dqT hk]; rfl
   ·rw [if_pos ⟨c2,hk⟩,dqF hk]; rfl
 ·rw [if_neg c2]
  by_cases c5 : o.1.val = 5
  ·rw [if_pos c5,← vertV_raw]
   cases hs : (Qbo A o.2.1).isSome
   ·rw [if_pos ⟨by omega,rfl⟩]
   ·rw [if_neg (by simp),if_neg (fun c => c2 c.1),if_neg (by omega)]
  ·rw [if_neg c5]
   by_cases c4 : o.1.val = 4
   ·rw [if_pos c4,← isR_eq,← isR_eq,← vertD_file,← vertD_file]
    cases h3 : isR A o.2.1 3
    ·by_cases hs : o.1.val ≠ 1 ∧ (Qbo A o.2.1).isSome = false
     ·rw [if_pos hs]; rfl
     ·rw [if_neg hs,if_neg (fun c => c2 c.1),if_pos ⟨c4,.inl rfl⟩]; rfl
    ·have hs : (Qbo A o.2.1).isSome = true:=by unfold isR at h3; rw [Bool.and_eq_true] at h3; exact h3.1
     rw [if_neg (by rw [hs]; simp),if_neg (fun c => c2 c.1)]
     cases h4 : isR A o.2.2.1 3
     ·rw [if_pos ⟨c4,.inr (.inl rfl)⟩]; rfl
     ·by_cases hf : (Qb1 A o.2.1).2.2.1 = (Qb1 A o.2.2.1).2.2.1
      ·rw [if_neg (by simp [hf]),dqT hf]; rfl
      ·rw [if_pos ⟨c4,.inr (.inr hf)⟩,dqF hf]; rfl
   ·rw [if_neg c4,if_neg (by omega),if_neg (fun c => c2 c.1),if_neg (fun c => c4 c.1)]
def refK (L : List PatV) (p : PatV) : Nat:=
 if patB p = true then
  if Qdm L p.1 = true then 7
  else if Qhj (vecL L) p.1 = true then
   if p.2.1.all (Qdm L) = true then
    if p.2.2.all (opR (L ++ [p])) = true then 0 else 10
   else 9
  else 9
 else 1
theorem refK_eq {L : List PatV} (hG : GrOk L) (p : PatV) : refK L p = grE L p:=by
 unfold refK grE
 have e1 : Qdm L = hasP (vecL L):=funext (hasR20_vec hG)
 rw [e1]
 cases hp : patB p
 ·rfl
 ·have e2 : p.2.2.all (opR (L ++ [p])) = p.2.2.all (refB (rawV (L ++ [p]))):=by
   rw [Bool.eq_iff_iff,List.all_eq_true,List.all_eq_true]
   have hk : ∀ o ∈ p.2.2,opR (L ++ [p]) o = refB (rawV (L ++ [p])) o:=fun o ho => by
    obtain ⟨k,hk⟩:=List.mem_iff_getElem?.1 ho
    exact opR_ref (Qfz (Qg6 ((Qdw hp).2.2.2 k o hk)).1)
   exact ⟨fun h o ho => (hk o ho).symm.trans (h o ho),fun h o ho => (hk o ho).trans (h o ho)⟩
  rw [e2]
theorem refK_1 {L : List PatV} {p : PatV} (h : patB p = false) : refK L p = 1:=by unfold refK; rw [h]; rfl
theorem refK_7 {L : List PatV} {p : PatV} (h : patB p = true) (h2 : Qdm L p.1 = true) : refK L p = 7:=by unfold refK; rw [if_pos h,if_pos h2]
theorem refK_9 {L : List PatV} {p : PatV} (h : patB p = true) (h2 : Qdm L p.1 = false) (h3 : Qhj (vecL L) p.1 = false) : refK L p = 9:=by unfold refK; rw [if_pos h,h2,h3]; rfl
theorem refK_9d {L : List PatV} {p : PatV} (h : patB p = true) (h2 : Qdm L p.1 = false) (h3 : Qhj (vecL L) p.1 = true) (h4 : p.2.1.all (Qdm L) = false) : refK L p = 9:=by unfold refK; rw [if_pos h,h2,h3,h4]; rfl
theorem refK_10 {L : List PatV} {p : PatV} (h : patB p = true) (h2 : Qdm L p.1 = false) (h3 : Qhj (vecL L) p.1 = true) (h4 : p.2.1.all (Qdm L) = true) (h5 : p.2.2.all (opR (L ++ [p])) = false) : refK L p = 10:=by unfold refK; rw [if_pos h,h2,h3,h4,h5]; rfl
theorem refK_0 {L : List PatV} {p : PatV} (h : patB p = true) (h2 : Qdm L p.1 = false) (h3 : Qhj (vecL L) p.1 = true) (h4 : p.2.1.all (Qdm L) = true) (h5 : p.2.2.all (opR (L ++ [p])) = true) : refK L p = 0:=by unfold refK; rw [if_pos h,h2,h3,h4,h5]; rfl
section
variable {α : Type} (key : α → Int) [DecidableEq α]
def Qb8 (x : α) (s : List α × Bool) (y : α) : List α × Bool:=
 let t:=!s.2 && (decide (y = x) || decide (key x < key y))
 let l:=if t then s.1 ++ [x] else s.1
 (if y = x then l else l ++ [y],s.2 || t)
variable {key}
theorem putStep_true (x : α) (ys : List α) : ∀ acc : List α,(∀ y ∈ ys,y ≠ x) → ys.foldl (Qb8 key x) (acc,true) = (acc ++ ys,true):=by
 induction ys with
 | nil => intro acc _; simp
 | cons y ys ih =>
  intro acc h
  rw [List.foldl_cons]
  have e : Qb8 key x (acc,true) y = (acc ++ [y],true):=by
   unfold Qb8
   simp [h y (List.mem_cons_self ..)]
  rw [e,ih _ fun z hz => h z (List.mem_cons_of_mem _ hz)]; simp
theorem putK_foldl (inj : ∀ x y : α,key x = key y → x = y) (x : α) (ys : List α) : ∀ acc : List α,Qfa key ys → endK x (ys.foldl (Qb8 key x) (acc,false)) = acc ++ insK key x ys:=by
 induction ys with
 | nil => intro acc _; simp [endK,insK]
 | cons y ys ih =>
  intro acc hr
  have hy:=List.pairwise_cons.1 hr
  rw [List.foldl_cons]
  unfold insK
  by_cases h1 : key x < key y
  ·have hne : y ≠ x:=fun e => by rw [e] at h1; omega
   have e : Qb8 key x (acc,false) y = (acc ++ [x] ++ [y],true):=by unfold Qb8; simp [h1,hne]
   rw [e,putStep_true x ys _ (fun z hz c => by have:=hy.1 z hz; rw [c] at this; omega),if_pos h1]
   simp [endK]
  ·by_cases h2 : key x = key y
   ·have he : y = x:=(inj _ _ h2).symm
    subst he
    have e : Qb8 key y (acc,false) y = (acc ++ [y],true):=by unfold Qb8; simp
    rw [e,putStep_true y ys _ (fun z hz c => by have:=hy.1 z hz; rw [c] at this; omega),if_neg h1,if_pos rfl]
    simp [endK]
   ·have hne : y ≠ x:=fun e => h2 (by rw [e])
    have e : Qb8 key x (acc,false) y = (acc ++ [y],false):=by unfold Qb8; simp [h1,hne]
    rw [e,ih _ hy.2,if_neg h1,if_neg h2]
    simp
theorem putStep_len (x : α) (ys : List α) : ∀ s : List α × Bool,(ys.foldl (Qb8 key x) s).1.length ≤ s.1.length + 2 * ys.length:=by
 induction ys with
 | nil => intro s; simp
 | cons y ys ih =>
  intro s
  rw [List.foldl_cons,List.length_cons]
  have h:=ih (Qb8 key x s y)
  have h1 : (Qb8 key x s y).1.length ≤ s.1.length + 2:=by
   unfold Qb8
   simp only
   split <;> split <;> simp
  omega
omit [DecidableEq α] in
theorem setK_snoc20 (l : List α) (x : α) : setK key (l ++ [x]) = insK key x (setK key l):=by unfold setK; rw [List.foldl_append]; rfl
end
end Go.Proofs.YtdafiipedlglpaaGreat

/- The document's graph: is a vertex one of a kind; are two lists the same: walked. -/
namespace Go.Proofs.YtdafiipedlglpaaGreat
open Go.RowKit

set_option maxRecDepth 100000 in
set_option maxHeartbeats 2000000 in
theorem ris20_any (L : List PatV) (w : World) (A : Option Addr) (n c : Nat) (hm : n ≤ maxLen) (h : PatsAt w A n L) (v : VidV) (kd : Nat) :
  Calls Tryz.prog 93 #[.agg #[.slice A n c],.agg (encV v).toArray,.int .u8 (kd : Int)] w (RetB w (.bool (isR L v kd))):=by
 have KG : Hid (Blk ((w.alloc (.cells #[.slice A n c] 33)).alloc (.cells (encV v).toArray 27)) w.heap.size 33 #[.slice A n c]):=(Blk.new _ _ _).alloc _
 have KV : Hid (Blk ((w.alloc (.cells #[.slice A n c] 33)).alloc (.cells (encV v).toArray 27)) (w.heap.size + 1) 27 (encV v).toArray):=Blk.newAt (by simp) _ _
 have B0 : Hid (Below w.heap.size w ((w.alloc (.cells #[.slice A n c] 33)).alloc (.cells (encV v).toArray 27))):=((Below.refl _ _).alloc (Nat.le_refl _) _).alloc (by simp) _
 have HV:=lH (Qe2 L ((w.alloc (.cells #[.slice A n c] 33)).alloc (.cells (encV v).toArray 27)) A n c hm (h.ext B0.out) v)
 clear h hm
 go_enter Tryz.func93,Tryz.ntmps93
 go_upto_region 1 with fail
 generalize ((w.alloc (.cells #[.slice A n c] 33)).alloc (.cells (encV v).toArray 27)) = w2 at *
 obtain ⟨gv,hgv⟩ : ∃ g,g = w.heap.size + 1:=⟨_,rfl⟩
 obtain ⟨gg,hgg⟩ : ∃ g,g = w.heap.size:=⟨_,rfl⟩
 rw [← hgv] at KV ⊢
 rw [← hgg] at KG ⊢
 replace hgv:=lH hgv
 replace hgg:=lH hgg
 have E : Hid (isR L v kd = ((Qbo L v).isSome && decide ((Qb1 L v).2.1.val = kd))):=rfl
 generalize Qb1 L v = x at *
 generalize (Qbo L v).isSome = ok at *
 go_wp2_with (first
  | (refine wpList_load_row rfl 33 _ (by rfl) gg (by rfl) _ _ _ _ KG.out Qbx rfl Qa9 ?_)
  | (refine wpList_load_row rfl 27 _ (by rfl) gv (by rfl) _ _ _ _ KV.out Qaj rfl Qal ?_))
 refine HV.out.mono ?_
 rintro e w3 ⟨rfl,b3⟩
 have KX : Hid (Blk ((w3.alloc (.cells Qa8 56)).setRow w3.heap.size (encX x).toArray) w3.heap.size 56 (encX x).toArray):=(Blk.new _ _ _).row _
 have BN : Hid (Below w3.heap.size w3 ((w3.alloc (.cells Qa8 56)).setRow w3.heap.size (encX x).toArray)):=Qad (Qaf w3 _) (Nat.le_refl _) _
 have B3:=lH (B0.out.trans (b3.mono B0.out.size))
 have B4:=lH (B3.out.trans (BN.out.mono B3.out.size))
 clear b3 HV KV KG B0 BN B3
 go_upto_region 2 with (first
  | (refine Qam (Qbu _) ?_)
  | (refine wpList_store_row rfl 56 _ _ (by rfl) w3.heap.size (encX x).toArray (by rfl) (by rfl) _ _ (Blk.new _ _ _) Qas rfl (Qbj _) ?_))
 generalize ((w3.alloc (.cells Qa8 56)).setRow w3.heap.size (encX x).toArray) = w4 at *
 generalize w3.heap.size = gx at *
 have y : w4.cell? ⟨gx,3,none⟩ = some (.int .u8 ((x.2.1.val : Nat) : Int)):=KX.out.cell 3
 cases ok
 ·rw [Bool.false_and] at E
  go_wp2_with fail
  go_ret
  exact ⟨Qag E.out.symm,B4.out⟩
 ·rw [Bool.true_and] at E
  by_cases h : x.2.1.val = kd
  ·have z : (((x.2.1.val : Nat) : Int) == (kd : Int)) = true:=by rw [beq_iff_eq]; omega
   rw [dqT h] at E
   replace h:=lH h
   go_wp2_with fail
   go_ret
   exact ⟨Qag E.out.symm,B4.out⟩
  ·have z : (((x.2.1.val : Nat) : Int) == (kd : Int)) = false:=by rw [beq_eq_false_iff_ne]; omega
   rw [dqF h] at E
   replace h:=lH h
   go_wp2_with fail
   go_ret
   exact ⟨Qag E.out.symm,B4.out⟩
end Go.Proofs.YtdafiipedlglpaaGreat

/- The document's graph: which patches there are: walked. -/
namespace Go.Proofs.YtdafiipedlglpaaGreat
open Go.RowKit

theorem fieldG20 (g : Nat) (w : World) : (Instr.fieldAt 33 (.pointer (some ⟨g,0,none⟩)) 0).run Tryz.prog w = .ok (.pointer (some ⟨g,0,none⟩)) w:=by simp [go_sem]
theorem loadPats20 (b o : Nat) (w : World) (A : Option Addr) (n c : Nat) (h : w.cell? ⟨b,o,none⟩ = some (.slice A n c)) : (Instr.loadAt 22 (.pointer (some ⟨b,o,none⟩))).run Tryz.prog w = .ok (.slice A n c) w:=by simp [go_sem,h]
theorem indexPats20r (b o n c k : Nat) (hk : k < n) (w : World) : (Instr.indexAt 22 (.slice (some ⟨b,o,none⟩) n c) (.int .i64 ((k : Nat) : Int))).run Tryz.prog w = .ok (.pointer (some ⟨b,o + k * 4,none⟩)) w:=by
 have h0 : (0 : Int) ≤ (k : Int):=by omega
 have h1 : (k : Int) < (n : Int):=by omega
 simp [go_sem,h0,h1]
theorem fieldPat20r (b o : Nat) (w : World) : (Instr.fieldAt 64 (.pointer (some ⟨b,o,none⟩)) 0).run Tryz.prog w = .ok (.pointer (some ⟨b,o,none⟩)) w:=by simp [go_sem]
set_option maxRecDepth 100000 in
set_option maxHeartbeats 4000000 in
theorem rvec20_any (l : List PatV) (w : World) (A : Option Addr) (n c : Nat) (h : PatsAt w A n l) (hm : n ≤ maxLen) :
  Calls Tryz.prog 92 #[.agg #[.slice A n c]] w (RetB w (.agg (vecA (vecL l)))):=by
 unfold maxLen at hm
 have KG : Hid (Blk (((w.alloc (.cells #[.slice A n c] 33)).alloc (.cells (vecA vec0) 109)).alloc (.cells (vecA vec0) 109)) w.heap.size 33 #[.slice A n c]):=((Blk.new _ _ _).alloc _).alloc _
 have KR : Hid (Blk (((w.alloc (.cells #[.slice A n c] 33)).alloc (.cells (vecA vec0) 109)).alloc (.cells (vecA vec0) 109)) (w.heap.size + 1) 109 (vecA vec0)):=(Blk.newAt (by simp) _ _).alloc _
 have KV : Hid (Blk (((w.alloc (.cells #[.slice A n c] 33)).alloc (.cells (vecA vec0) 109)).alloc (.cells (vecA vec0) 109)) (w.heap.size + 1 + 1) 109 (vecA (vecL (l.take 0)))):=by rw [List.take_zero]; exact Blk.newAt (by simp) _ _
 have B0 : Hid (Below w.heap.size w (((w.alloc (.cells #[.slice A n c] 33)).alloc (.cells (vecA vec0) 109)).alloc (.cells (vecA vec0) 109))):=(((Below.refl _ _).alloc (Nat.le_refl _) _).alloc (by simp) _).alloc (by simp; omega) _
 have H0:=lH h
 have hgv : Hid (w.heap.size ≤ w.heap.size + 1 + 1):=by rw [Hid]; omega
 have hgrw : Hid (w.heap.size ≤ w.heap.size + 1):=by rw [Hid]; omega
 have hne : Hid (w.heap.size + 1 ≠ w.heap.size + 1 + 1):=by show ¬ _; omega
 have hne2 : Hid (w.heap.size ≠ w.heap.size + 1 + 1):=by show ¬ _; omega
 have hsz0 : Hid ((vecA vec0).size = 64):=by rw [Hid,Qbi]; exact vec0_ok.len
 have hcU : ∀ args u,(callFunc 130 args).run Tryz.prog u = .ok (.enter 130 args) u:=enters_of Tryz.func130 (by kernel_rfl) rfl
 clear h
 go_enter Tryz.func92,Tryz.ntmps92
 go_upto_region 2 with (refine Qam (alloc64 _) ?_)
 rw [show ((w.alloc (.cells #[.slice A n c] 33)).alloc (.cells (vecA vec0) 109)).heap.size = w.heap.size + 1 + 1 by simp,show (w.alloc (.cells #[.slice A n c] 33)).heap.size = w.heap.size + 1 by simp]
 generalize (((w.alloc (.cells #[.slice A n c] 33)).alloc (.cells (vecA vec0) 109)).alloc (.cells (vecA vec0) 109)) = w2 at *
 obtain ⟨gv,hgv'⟩ : ∃ g,g = w.heap.size + 1 + 1:=⟨_,rfl⟩
 obtain ⟨gr,hgr⟩ : ∃ g,g = w.heap.size + 1:=⟨_,rfl⟩
 obtain ⟨gg,hgg⟩ : ∃ g,g = w.heap.size:=⟨_,rfl⟩
 rw [← hgv'] at KV hgv hne hne2 ⊢
 rw [← hgr] at KR hgrw hne ⊢
 rw [← hgg] at KG hne2 ⊢
 replace hgv':=lH hgv'
 replace hgr:=lH hgr
 replace hgg:=lH hgg
 go_wp2_with fail
 have BS:=lH (Below.refl (w2.heap.size) w2)
 go_loopw [4] (fun i wr => ∃ k : Nat,k ≤ n ∧ i = .int .i64 k ∧ Hid (Blk wr gv 109 (vecA (vecL (l.take k)))) ∧ Hid (Blk wr gr 109 (vecA vec0)) ∧ Hid (Blk wr gg 33 #[.slice A n c]) ∧ Hid (Below w.heap.size w wr)) (fun i _ => n - (intOf i).toNat)
 case atStart => exact ⟨0,by omega,rfl,KV.out,KR.out,KG.out,B0.out⟩
 case round =>
  clear KV KR KG BS
  obtain ⟨k,hk,rfl,KV,KR,KG,B⟩:=hrel
  have yg : wr.cell? ⟨gg,0,none⟩ = some (.slice A n c):=KG.out.cell 0
  have hk0 : (0 : Int) ≤ (k : Int):=by omega
  by_cases hlt : k < n
  ·have hlk : (k : Int) < (n : Int):=by omega
   obtain ⟨b,o,p,r,rfl,hb,hp,pa,R⟩:=(H0.out.ext B.out).at_ hlt
   obtain ⟨⟨A3,c3,A4,c4,rfl,_,_⟩,_,_⟩:=pa
   have RP:=lH (Qh9 R)
   have hbl:=lH hb
   have RV:=lH (blk_vec KV.out)
   have gvl : Hid (gv < wr.heap.size):=KV.out.lt
   have N : Hid (vecL (l.take (k + 1)) = putW (vecL (l.take k)) p.1):=by rw [Hid,Qc5 hp,Qgo]
   have HVW : Hid (VecOk (putW (vecL (l.take k)) p.1)):=putV_ok (Qcd _) _ _
   have hsz1 : Hid ((vecA (putW (vecL (l.take k)) p.1)).size = 64):=by rw [Hid,Qbi]; exact HVW.out.len
   have hszk : Hid ((vecA (vecL (l.take k))).size = 64):=by rw [Hid,Qbi]; exact (Qcd _).len
   have hsz2 : Hid ((Tryz.prog.info? 109).map (·.size) = some (vecA (putW (vecL (l.take k)) p.1)).size):=by rw [Hid,hsz1.out]; exact Qcl
   have hone:=lH (Qf5 (putW (vecL (l.take k)) p.1))
   have HP:=lH (fun u => rput12_any (vecL (l.take k)) (Qcd _) p.1 u)
   have HIX : Hid (∀ u : World,(Instr.indexAt 22 (.slice (some ⟨b,o,none⟩) n c) (.int .i64 ((k : Nat) : Int))).run Tryz.prog u = .ok (.pointer (some ⟨b,o + k * 4,none⟩)) u):=fun u => indexPats20r b o n c k hlt u
   clear R hp
   go_upto_region 5 with fail
   clear yg
   go_cut [5] (fun pv wx => ∃ gn,pv = .pointer (some ⟨gn,0,none⟩) ∧ Blk wx gn 109 (vecA (putW (vecL (l.take k)) p.1)) ∧ Below wr.heap.size wr wx)
   case first =>
    refine wp_region_held (S:=fun w' => Below wr.heap.size wr w') Qav ?_
    change wpAnyH _ _ _ _ _ _ _ _ wr.drew
    have B5 : Hid (Below wr.heap.size wr wr.drew):=(Below.refl _ _).drew
    generalize wr.drew = w5 at B5 ⊢
    simp only [List.size_toArray,List.length_cons,List.length_nil]
    refine Qai 0 15 (.agg (vecA (vecL (l.take k)))) rfl (fun w' h => Qb3 rfl (Qac RV.out h gvl.out) Qb4 rfl (Qgv (Qcd _))) B5.out ?_
    simp only [Act.put,sqA,sq0,sqS]
    refine Qai 1 16 (.pointer (some ⟨gg,0,none⟩)) rfl (fun w' _ => Qbp rfl (fieldG20 gg w')) B5.out ?_
    simp only [Act.put,sqA,sq0,sqS]
    refine Qai 2 17 (.slice (some ⟨b,o,none⟩) n c) rfl (fun w' h => Qcw rfl (loadPats20 gg 0 w' _ _ _ ((KG.out.ext h).cell 0))) B5.out ?_
    simp only [Act.put,sqA,sq0,sqS]
    refine Qai 3 18 (.int .i64 ((k : Nat) : Int)) rfl (fun _ _ => Qax (v:=.int .i64 ((k : Nat) : Int)) rfl) B5.out ?_
    simp only [Act.put,sqA,sq0,sqS]
    refine Qai 4 19 (.pointer (some ⟨b,o + k * 4,none⟩)) rfl (fun w' _ => Qc3 rfl rfl (HIX.out w')) B5.out ?_
    simp only [Act.put,sqA,sq0,sqS]
    refine Qai 5 20 (.pointer (some ⟨b,o + k * 4,none⟩)) rfl (fun w' _ => Qbp rfl (fieldPat20r b (o + k * 4) w')) B5.out ?_
    simp only [Act.put,sqA,sq0,sqS]
    refine Qai 6 21 (.agg (encP p.1).toArray) rfl (fun w' h => Qb3 rfl (Qac RP.out h hbl.out) Qan rfl Qaq) B5.out ?_
    simp only [Act.put,sqA,sq0,sqS]
    refine wpAnyH_all (rs:=[7,11]) (by kernel_rfl) (by simp) ?_
    intro i hi
    simp only [List.mem_cons,List.not_mem_nil,or_false] at hi
    rcases hi with rfl | rfl
    ·refine Qae rfl rfl (Qao (args:=#[.agg (vecA (vecL (l.take k))),.agg (encP p.1).toArray]) hcU (by simp only [sqM,sqC,sqN]; rfl) (HP.out w5) ?_)
     rintro e w_1 ⟨rfl,h_2⟩
     refine ⟨_,rfl,Qaa B5.out h_2, ?_⟩
     simp only [Act.put,sqA,sq0,sqS]
     have B_3:=lH (Qaa B5.out h_2)
     clear B5
     clear h_2
     refine Qai 8 14 (.tuple #[.agg (vecA (putW (vecL (l.take k)) p.1)),.bool (putB (vecL (l.take k)) p.1)]) rfl (fun _ _ => Qax (v:=.tuple #[.agg (vecA (putW (vecL (l.take k)) p.1)),.bool (putB (vecL (l.take k)) p.1)]) rfl) B_3.out ?_
     simp only [Act.put,sqA,sq0,sqS]
     refine Qai 9 23 (.agg (vecA (putW (vecL (l.take k)) p.1))) rfl (fun _ _ => Qa3 (v:=.agg (vecA (putW (vecL (l.take k)) p.1))) rfl rfl) B_3.out ?_
     simp only [Act.put,sqA,sq0,sqS]
     refine Qai 10 24 (.bool (putB (vecL (l.take k)) p.1)) rfl (fun _ _ => Qa3 (v:=.bool (putB (vecL (l.take k)) p.1)) rfl rfl) B_3.out ?_
     simp only [Act.put,sqA,sq0,sqS]
     refine oneH 11 ?_
     refine Qae rfl rfl (Qaz (alloc64 _) ?_)
     refine ⟨Qaa B_3.out (Qaf _ _), ?_⟩
     simp only [Act.put,sqA,sq0,sqS]
     have K_4 : Hid (Blk (w_1.alloc (.cells (vecA vec0) 109)) w_1.heap.size 109 (vecA vec0)):=Blk.new _ _ _
     have h_5 : Below w_1.heap.size w_1 (w_1.alloc (.cells (vecA vec0) 109)):=Qaf _ _
     have gz_7 : Hid (wr.heap.size ≤ w_1.heap.size):=B_3.out.size
     generalize (w_1.alloc (.cells (vecA vec0) 109)) = w_6 at *
     have B_9:=lH (Qaa B_3.out h_5)
     clear B_3
     clear h_5
     generalize w_1.heap.size = g_8 at *
     refine oneH 12 ?_
     refine Qae rfl rfl (Qay (cs:=(vecA (putW (vecL (l.take k)) p.1))) rfl rfl K_4.out hsz2.out (by rw [hsz0.out,hsz1.out]) hone.out ?_)
     refine ⟨Qad B_9.out gz_7.out _, ?_⟩
     have K_10:=lH (K_4.out.row (vecA (putW (vecL (l.take k)) p.1)))
     have B_11:=lH (Qad B_9.out gz_7.out (vecA (putW (vecL (l.take k)) p.1)))
     clear B_9 K_4
     refine Qai 13 6 (.bool (putB (vecL (l.take k)) p.1)) rfl (fun _ _ => Qby (v:=.bool (putB (vecL (l.take k)) p.1)) rfl) B_11.out ?_
     simp only [Act.put,sqA,sq0,sqS]
     refine wpAnyH_done (by kernel_rfl) ?_ _
     go_wp2_with fail
     go_meet
     case rel => exact ⟨_,rfl,K_10.out,B_11.out⟩
    ·refine Qae rfl rfl (Qaz (alloc64 _) ?_)
     refine ⟨Qaa B5.out (Qaf _ _), ?_⟩
     simp only [Act.put,sqA,sq0,sqS]
     have K_13 : Hid (Blk (w5.alloc (.cells (vecA vec0) 109)) w5.heap.size 109 (vecA vec0)):=Blk.new _ _ _
     have h_14 : Below w5.heap.size w5 (w5.alloc (.cells (vecA vec0) 109)):=Qaf _ _
     have gz_16 : Hid (wr.heap.size ≤ w5.heap.size):=B5.out.size
     generalize (w5.alloc (.cells (vecA vec0) 109)) = w_15 at *
     have B_18:=lH (Qaa B5.out h_14)
     clear B5
     clear h_14
     generalize w5.heap.size = g_17 at *
     refine oneH 7 ?_
     refine Qae rfl rfl (Qao (args:=#[.agg (vecA (vecL (l.take k))),.agg (encP p.1).toArray]) hcU (by simp only [sqM,sqC,sqN]; rfl) (HP.out w_15) ?_)
     rintro e w_19 ⟨rfl,h_20⟩
     refine ⟨_,rfl,Qaa B_18.out h_20, ?_⟩
     simp only [Act.put,sqA,sq0,sqS]
     have B_21:=lH (Qaa B_18.out h_20)
     have F_22:=lH (K_13.out.ext h_20)
     clear B_18 K_13
     clear h_20
     refine Qai 8 14 (.tuple #[.agg (vecA (putW (vecL (l.take k)) p.1)),.bool (putB (vecL (l.take k)) p.1)]) rfl (fun _ _ => Qax (v:=.tuple #[.agg (vecA (putW (vecL (l.take k)) p.1)),.bool (putB (vecL (l.take k)) p.1)]) rfl) B_21.out ?_
     simp only [Act.put,sqA,sq0,sqS]
     refine Qai 9 23 (.agg (vecA (putW (vecL (l.take k)) p.1))) rfl (fun _ _ => Qa3 (v:=.agg (vecA (putW (vecL (l.take k)) p.1))) rfl rfl) B_21.out ?_
     simp only [Act.put,sqA,sq0,sqS]
     refine Qai 10 24 (.bool (putB (vecL (l.take k)) p.1)) rfl (fun _ _ => Qa3 (v:=.bool (putB (vecL (l.take k)) p.1)) rfl rfl) B_21.out ?_
     simp only [Act.put,sqA,sq0,sqS]
     refine oneH 12 ?_
     refine Qae rfl rfl (Qay (cs:=(vecA (putW (vecL (l.take k)) p.1))) rfl rfl F_22.out hsz2.out (by rw [hsz0.out,hsz1.out]) hone.out ?_)
     refine ⟨Qad B_21.out gz_16.out _, ?_⟩
     have K_23:=lH (F_22.out.row (vecA (putW (vecL (l.take k)) p.1)))
     have B_24:=lH (Qad B_21.out gz_16.out (vecA (putW (vecL (l.take k)) p.1)))
     clear B_21 F_22
     refine Qai 13 6 (.bool (putB (vecL (l.take k)) p.1)) rfl (fun _ _ => Qby (v:=.bool (putB (vecL (l.take k)) p.1)) rfl) B_24.out ?_
     simp only [Act.put,sqA,sq0,sqS]
     refine wpAnyH_done (by kernel_rfl) ?_ _
     go_wp2_with fail
     go_meet
     case rel => exact ⟨_,rfl,K_23.out,B_24.out⟩
   case rest =>
    obtain ⟨gn,rfl,kn,bx⟩:=hcut
    obtain ⟨wx,rfl⟩ : ∃ wx,wx = wc:=⟨_,rfl⟩
    have KN:=lH kn
    have KV:=lH (KV.out.ext bx)
    have KG:=lH (KG.out.ext bx)
    have KR:=lH (KR.out.ext bx)
    have B:=lH (B.out.trans (bx.mono B.out.size))
    clear kn bx RV RP HP HIX
    go_wp2_with (first
     | (refine wpList_load_row rfl 109 _ (by rfl) gn (by rfl) _ _ _ _ KN.out Qb4 rfl (by rw [hsz1.out]; exact Qcl) ?_)
     | (refine wpList_store_row rfl 109 _ _ (by rfl) gv (vecA (putW (vecL (l.take k)) p.1)) (by rfl) (by rfl) _ _ KV.out hsz2.out (by rw [hszk.out,hsz1.out]) hone.out ?_))
    go_roundw
    case rel => exact ⟨k + 1,by omega,by go_num,by rw [N.out]; exact KV.out.row _,KR.out.rowFar hne.out _,KG.out.rowFar hne2.out _,Qad B.out hgv.out _⟩
    case measure => simp [intOf]; omega
  ·have hk' : k = n:=by omega
   subst hk'
   rw [List.take_of_length_le (Nat.le_of_eq H0.out.len)] at KV
   have hszk : Hid ((vecA (vecL l)).size = 64):=by rw [Hid,Qbi]; exact (Qcd _).len
   have hone:=lH (Qf5 (vecL l))
   go_wp2_with (first
    | (refine wpList_load_row rfl 109 _ (by rfl) gv (by rfl) _ _ _ _ KV.out Qb4 rfl (by rw [hszk.out]; exact Qcl) ?_)
    | (refine wpList_store_row rfl 109 _ _ (by rfl) gr (vecA (vecL l)) (by rfl) (by rfl) _ _ KR.out (by rw [hszk.out]; exact Qcl) (by rw [hszk.out,hsz0.out]) hone.out ?_))
   refine bodyPost_ret (results_cell_row rfl _ _ gr _ (vecA (vecL l)) _ _ rfl (KR.out.row _) Qb4 rfl (by rw [hszk.out]; exact Qcl)) rfl ?_
   exact ⟨rfl,Qad B.out hgrw.out _⟩
end Go.Proofs.YtdafiipedlglpaaGreat

/- The document's graph: a step put into a list: walked. -/
namespace Go.Proofs.YtdafiipedlglpaaGreat
open Go.RowKit

theorem equalE20 (x y : Qbv) (w : World) : (Op.equal 88 (.agg (encE x).toArray) (.agg (encE y).toArray)).run Tryz.prog w = .ok (decide (x = y)) w:=by
 obtain ⟨kx,hkx⟩:=kKeyE x
 obtain ⟨ky,hky⟩:=kKeyE y
 obtain ⟨r,hr,hiff⟩:=run_equal_deep (P:=Tryz.prog) w (m:=4) (by omega) (k := 88) (by kernel_rfl) (by kernel_rfl) hkx hky
 have hd : r = decide (x = y):=by
  rw [Bool.eq_iff_iff,hiff,decide_eq_true_eq]
  constructor
  ·intro e
   subst e
   exact Qix (kLawE.inj hkx hky)
  ·rintro rfl
   rw [hkx] at hky
   exact Option.some.inj hky
 rw [← hd]
 exact hr
theorem eqlE20 (x y : Qbv) (w : World) : (binOp .eql 88 (.agg (encE x).toArray) (.agg (encE y).toArray)).run Tryz.prog w = .ok (.bool (decide (x = y))) w:=by
 have hr : (Op.equalIn 10000 88 (.agg (encE x).toArray) (.agg (encE y).toArray)).run Tryz.prog w = .ok (decide (x = y)) w:=equalE20 x y w
 generalize (encE x).toArray = E at *
 generalize (encE y).toArray = E' at *
 simp [go_sem,hr]
theorem neqE20 (x y : Qbv) (w : World) : (binOp .neq 88 (.agg (encE x).toArray) (.agg (encE y).toArray)).run Tryz.prog w = .ok (.bool (!decide (x = y))) w:=by
 have hr : (Op.equalIn 10000 88 (.agg (encE x).toArray) (.agg (encE y).toArray)).run Tryz.prog w = .ok (decide (x = y)) w:=equalE20 x y w
 generalize (encE x).toArray = E at *
 generalize (encE y).toArray = E' at *
 simp [go_sem,hr]
theorem e_fst {w : World} {b o : Nat} {x : Qbv} (h : w.rangeAt b o (encE x)) : w.rangeAt b o (encV x.1):=fun j v hj =>
 match j,hj with
 | 0,hj => h 0 v hj
 | 1,hj => h 1 v hj
 | 2,hj => h 2 v hj
 | j + 3,hj => by simp [encV] at hj
theorem e_snd {w : World} {b o : Nat} {x : Qbv} (h : w.rangeAt b o (encE x)) : w.rangeAt b (o + 3) (encV x.2):=fun j v hj =>
 match j,hj with
 | 0,hj => h 3 v hj
 | 1,hj => h 4 v hj
 | 2,hj => h 5 v hj
 | j + 3,hj => by simp [encV] at hj
theorem eqlVt {x y : VidV} (h : x = y) (u : World) : (binOp .neq 27 (.agg (encV x).toArray) (.agg (encV y).toArray)).run Tryz.prog u = .ok (.bool false) u:=by rw [neqV,dqT h]; rfl
theorem eqlVf {x y : VidV} (h : ¬ x = y) (u : World) : (binOp .neq 27 (.agg (encV x).toArray) (.agg (encV y).toArray)).run Tryz.prog u = .ok (.bool true) u:=by rw [neqV,dqF h]; rfl
theorem signV_low (a b : Int) : decide (Qb5 a b < 0) = decide (a < b):=by
 rcases Int.lt_trichotomy a b with h | h | h
 ·rw [Qf6 h,dqT h]; rfl
 ·rw [Qf8 h,dqF (show ¬ a < b by omega)]; rfl
 ·rw [Qf7 h,dqF (show ¬ a < b by omega)]; rfl
set_option maxRecDepth 100000 in
set_option maxHeartbeats 2000000 in
theorem rahead_any (x y : Qbv) (w : World) : Calls Tryz.prog 137 #[.agg (encE x).toArray,.agg (encE y).toArray] w (RetB w (.bool (decide (keyE x < keyE y)))):=by
 have K1 : Hid (Blk ((w.alloc (.cells (encE x).toArray 88)).alloc (.cells (encE y).toArray 88)) w.heap.size 88 (encE x).toArray):=(Blk.new _ _ _).alloc _
 have K2 : Hid (Blk ((w.alloc (.cells (encE x).toArray 88)).alloc (.cells (encE y).toArray 88)) (w.heap.size + 1) 88 (encE y).toArray):=Blk.newAt (by simp) _ _
 have B0 : Hid (Below w.heap.size w ((w.alloc (.cells (encE x).toArray 88)).alloc (.cells (encE y).toArray 88))):=((Below.refl _ _).alloc (Nat.le_refl _) _).alloc (by simp) _
 go_enter Tryz.func137,Tryz.ntmps137
 go_upto_region 1 with fail
 generalize ((w.alloc (.cells (encE x).toArray 88)).alloc (.cells (encE y).toArray 88)) = w2 at *
 obtain ⟨g2,hg2⟩ : ∃ g,g = w.heap.size + 1:=⟨_,rfl⟩
 obtain ⟨g1,hg1⟩ : ∃ g,g = w.heap.size:=⟨_,rfl⟩
 rw [← hg2] at K2 ⊢
 rw [← hg1] at K1 ⊢
 replace hg1:=lH hg1
 replace hg2:=lH hg2
 have R1:=lH (e_fst (Qau K1.out))
 have R2:=lH (e_fst (Qau K2.out))
 have S1:=lH (e_snd (Qau K1.out))
 have S2:=lH (e_snd (Qau K2.out))
 have b1:=Qgu x.2
 have b2:=Qgu y.2
 by_cases h : x.1 = y.1
 ·have NE:=eqlVt h
  have E : Hid (decide (keyE x < keyE y) = decide (Qb5 (keyV x.2) (keyV y.2) < 0)):=by
   rw [Hid,signV_low]
   unfold keyE
   rw [h,Bool.eq_iff_iff,decide_eq_true_eq,decide_eq_true_eq]
   omega
  have HC:=lH (rcmpV x.2 y.2 w2)
  generalize Qb5 (keyV x.2) (keyV y.2) = s at *
  clear h b1 b2
  go_wp2_with (first
   | (refine wpList_load_mid rfl 27 _ (by rfl) g1 0 (by rfl) _ _ R1.out Qaj rfl Qal ?_)
   | (refine wpList_load_mid rfl 27 _ (by rfl) g2 0 (by rfl) _ _ R2.out Qaj rfl Qal ?_)
   | (refine wpList_load_mid rfl 27 _ (by rfl) g1 (0 + 3) (by rfl) _ _ S1.out Qaj rfl Qal ?_)
   | (refine wpList_load_mid rfl 27 _ (by rfl) g2 (0 + 3) (by rfl) _ _ S2.out Qaj rfl Qal ?_))
  refine HC.out.mono ?_
  rintro e w3 ⟨rfl,b3⟩
  have B3:=lH (B0.out.trans (b3.mono B0.out.size))
  clear b3 HC NE
  go_wp2_with fail
  go_ret
  exact ⟨Qag E.out.symm,B3.out⟩
 ·have NE:=eqlVf h
  have E : Hid (decide (keyE x < keyE y) = decide (Qb5 (keyV x.1) (keyV y.1) < 0)):=by
   rw [Hid,signV_low]
   have hk : keyV x.1 ≠ keyV y.1:=fun e => h (Qg7 _ _ e)
   unfold keyE
   rw [Bool.eq_iff_iff,decide_eq_true_eq,decide_eq_true_eq]
   omega
  have HC:=lH (rcmpV x.1 y.1 w2)
  generalize Qb5 (keyV x.1) (keyV y.1) = s at *
  clear h b1 b2
  go_wp2_with (first
   | (refine wpList_load_mid rfl 27 _ (by rfl) g1 0 (by rfl) _ _ R1.out Qaj rfl Qal ?_)
   | (refine wpList_load_mid rfl 27 _ (by rfl) g2 0 (by rfl) _ _ R2.out Qaj rfl Qal ?_))
  refine HC.out.mono ?_
  rintro e w3 ⟨rfl,b3⟩
  have B3:=lH (B0.out.trans (b3.mono B0.out.size))
  clear b3 HC NE
  go_wp2_with fail
  go_ret
  exact ⟨Qag E.out.symm,B3.out⟩
theorem put_yes (key : Qbv → Int) {x y : Qbv} {s : List Qbv × Bool} (h : s.2 = true) (hne : y ≠ x) : Qb8 key x s y = (s.1 ++ [y],true):=by unfold Qb8; simp [h,hne]
theorem put_drop (key : Qbv → Int) {x y : Qbv} {s : List Qbv × Bool} (h : s.2 = true) (he : y = x) : Qb8 key x s y = (s.1,true):=by unfold Qb8; simp [h,he]
theorem put_here (key : Qbv → Int) {x y : Qbv} {s : List Qbv × Bool} (h : s.2 = false) (he : y = x) : Qb8 key x s y = (s.1 ++ [x],true):=by unfold Qb8; simp [h,he]
theorem put_ahead (key : Qbv → Int) {x y : Qbv} {s : List Qbv × Bool} (h : s.2 = false) (hne : y ≠ x) (hl : key x < key y) : Qb8 key x s y = (s.1 ++ [x] ++ [y],true):=by unfold Qb8; simp [h,hne,hl]
theorem put_later (key : Qbv → Int) {x y : Qbv} {s : List Qbv × Bool} (h : s.2 = false) (hne : y ≠ x) (hl : ¬ key x < key y) : Qb8 key x s y = (s.1 ++ [y],false):=by unfold Qb8; simp [h,hne,hl]
theorem eqE_t {x y : Qbv} (h : x = y) (u : World) : (binOp .eql 88 (.agg (encE x).toArray) (.agg (encE y).toArray)).run Tryz.prog u = .ok (.bool true) u:=by rw [eqlE20,dqT h]
theorem eqE_f {x y : Qbv} (h : ¬ x = y) (u : World) : (binOp .eql 88 (.agg (encE x).toArray) (.agg (encE y).toArray)).run Tryz.prog u = .ok (.bool false) u:=by rw [eqlE20,dqF h]
theorem neE_t {x y : Qbv} (h : ¬ x = y) (u : World) : (binOp .neq 88 (.agg (encE x).toArray) (.agg (encE y).toArray)).run Tryz.prog u = .ok (.bool true) u:=by rw [neqE20,dqF h]; rfl
theorem neE_f {x y : Qbv} (h : x = y) (u : World) : (binOp .neq 88 (.agg (encE x).toArray) (.agg (encE y).toArray)).run Tryz.prog u = .ok (.bool false) u:=by rw [neqE20,dqT h]; rfl
theorem Qd7 (mo : List Qbv) (y : Qbv) : (mo ++ [y]).flatMap encE = mo.flatMap encE ++ encE y:=by simp
set_option maxRecDepth 100000 in
set_option maxHeartbeats 8000000 in
theorem rput20_any (l : List Qbv) (x : Qbv) (hl : Qfa keyE l) (w : World) (A : Option Addr) (n c : Nat) (h : EdgesAt w A n l) (hm : n ≤ 100000) :
  Calls Tryz.prog 109 #[.slice A n c,.agg (encE x).toArray] w (OwnedRet w 88 6 (insK keyE x l).length ((insK keyE x l).flatMap encE)):=by
 have E : Hid (endK x (l.foldl (Qb8 keyE x) ([],false)) = insK keyE x l):=by rw [Hid,putK_foldl Qg8 x l [] hl,List.nil_append]
 have hln:=lH h.len
 have B0 : Hid (Below w.heap.size w (w.alloc (.cells (encE x).toArray 88))):=Qaf _ _
 have KE : Hid (Blk (w.alloc (.cells (encE x).toArray 88)) w.heap.size 88 (encE x).toArray):=Blk.new _ _ _
 have H2:=lH (h.ext B0.out)
 have hlen : Hid (∀ k,((l.take k).foldl (Qb8 keyE x) ([],false)).1.length ≤ 200000):=fun k => by
  have h1:=putStep_len (key:=keyE) x (l.take k) ([],false)
  have h2 : (l.take k).length ≤ 100000:=by rw [List.length_take,hln.out]; omega
  simp only [List.length_nil] at h1
  omega
 clear h hl
 go_enter Tryz.func109,Tryz.ntmps109
 go_upto_region 1 with fail
 generalize (w.alloc (.cells (encE x).toArray 88)) = w2 at *
 have hw2 : Hid (w.heap.size ≤ w2.heap.size):=B0.out.size
 obtain ⟨ge,hge⟩ : ∃ g,g = w.heap.size:=⟨_,rfl⟩
 rw [← hge] at KE ⊢
 replace hge:=lH hge
 have BS:=lH (Below.refl w2.heap.size w2)
 go_wp2_with fail
 go_loopw [7,5,6] (fun i v t wr => ∃ (k : Nat) (S : List Qbv × Bool),k ≤ n ∧ i = .int .i64 k ∧ Hid (S = (l.take k).foldl (Qb8 keyE x) ([],false)) ∧ t = .bool S.2 ∧ Hid (wr.ownsRow w2.heap.size 88 6 v S.1.length (S.1.flatMap encE)) ∧ Hid (Below w2.heap.size w2 wr)) (fun i _ _ _ => n - (intOf i).toNat)
 case atStart => exact ⟨0,([],false),by omega,rfl,rfl,rfl,World.ownsRow_nil _ _ _ _,BS.out⟩
 case round =>
  clear BS
  obtain ⟨k,S,hk,rfl,hS,rfl,OW,B⟩:=hrel
  obtain ⟨wi,rfl⟩ : ∃ wx,wx = wr:=⟨_,rfl⟩
  have hk0 : (0 : Int) ≤ (k : Int):=by omega
  have hSl : Hid (S.1.length ≤ 200000):=by rw [Hid,hS.out]; exact hlen.out k
  by_cases hlt : k < n
  ·have hlk : (k : Int) < (n : Int):=by omega
   obtain ⟨b,o,y,rfl,hb,hy,R⟩:=H2.out.at_ hlt
   have hN : Hid (Qb8 keyE x S y = (l.take (k + 1)).foldl (Qb8 keyE x) ([],false)):=by
    rw [Hid,List.take_add_one,hy,List.foldl_append,← hS.out]; rfl
   have R0:=lH R
   have hb0:=lH hb
   clear R hb hy
   obtain ⟨S1,S2⟩:=S
   replace OW : Hid (wi.ownsRow w2.heap.size 88 6 _ S1.length (S1.flatMap encE)):=OW
   replace hSl : Hid (S1.length ≤ 200000):=hSl
   go_upto_region 6 with fail
   cases S2
   ·by_cases he : y = x
    ·have hP:=lH (hN.out.symm.trans (put_here keyE rfl he))
     have EQ:=eqE_t he
     have NE:=neE_f he
     clear hN hS
     replace he:=lH he
     have KEs:=lH (KE.out.ext B.out)
     have RE:=lH (Qau KEs.out)
     have hel : Hid (ge < wi.heap.size):=KEs.out.lt
     have RX:=lH (Qac R0.out B.out hb0.out)
     have hbl : Hid (b < wi.heap.size):=Nat.lt_of_lt_of_le hb0.out B.out.size
     refine Qah Qav (by kernel_rfl) ?_
     repeat (first
      | go_big_quiet_skip
      | (refine Qab (Qak RX.out hbl.out) Qbg rfl Qbm rfl rfl ?_; simp only [sqS,sq0])
      | (refine Qab (Qak RE.out hel.out) Qbg rfl Qbm rfl rfl ?_; simp only [sqS,sq0])
      | go_big_quiet_step (fail))
     refine wpQuiet_nil ?_
     rintro _ ⟨z,rfl⟩
     have B6:=lH (B.out.trans (z.h.mono B.out.size))
     have OW6:=lH (Qap OW.out z.h)
     generalize z.w = w6 at *
     clear OW B RX RE hel hbl KEs
     have KE6:=lH (KE.out.ext B6.out)
     have hbs:=B6.out.size
     have hll : (S1).length ≤ 200001:=by have:=hSl.out; omega
     go_upto_region 9 with (first
      | (refine wpList_load_row rfl 88 _ (by rfl) ge (by rfl) _ _ _ _ KE6.out Qbg rfl Qbm ?_)
      | (refine Qa0 Qeh (Qda x) (by omega) (by rfl) ?_)
      | (at_builtin; refine Qa5 Qeh OW6.out (encE x) rfl (Qes x) hbs (by omega) (by unfold maxLen; omega) (by rfl) (by rfl) (by rfl) ?_; intro vn w7 own1 bel1))
     have OW7 : Hid (w7.ownsRow w2.heap.size 88 6 vn (S1 ++ [x]).length ((S1 ++ [x]).flatMap encE)):=by
      rw [Hid,List.length_append,Qd7]; exact own1
     have B7:=lH (B6.out.trans bel1)
     clear own1 bel1 OW6 B6 hbs hll
     clear KE6
     have KEs:=lH (KE.out.ext B7.out)
     have RE:=lH (Qau KEs.out)
     have hel : Hid (ge < w7.heap.size):=KEs.out.lt
     have RX:=lH (Qac R0.out B7.out hb0.out)
     have hbl : Hid (b < w7.heap.size):=Nat.lt_of_lt_of_le hb0.out B7.out.size
     refine Qah Qav (by kernel_rfl) ?_
     repeat (first
      | go_big_quiet_skip
      | (refine Qab (Qak RX.out hbl.out) Qbg rfl Qbm rfl rfl ?_; simp only [sqS,sq0])
      | (refine Qab (Qak RE.out hel.out) Qbg rfl Qbm rfl rfl ?_; simp only [sqS,sq0])
      | go_big_quiet_step (fail))
     refine wpQuiet_nil ?_
     rintro _ ⟨z,rfl⟩
     have B8:=lH (B7.out.trans (z.h.mono B7.out.size))
     have OW8:=lH (Qap OW7.out z.h)
     generalize z.w = w8 at *
     clear OW7 B7 RX RE hel hbl KEs
     go_wp2_with fail
     go_roundw
     case rel => exact ⟨k + 1,_,by omega,by go_num,hP.out.symm,rfl,OW8.out,B8.out⟩
     case measure => simp [intOf]; omega
    ·by_cases hl : keyE x < keyE y
     ·have hP:=lH (hN.out.symm.trans (put_ahead keyE rfl he hl))
      have EQ:=eqE_f he
      have NE:=neE_t he
      have HA : Hid (∀ u,Calls Tryz.prog 137 #[.agg (encE x).toArray,.agg (encE y).toArray] u (RetB u (.bool true))):=fun u => by rw [← dqT hl]; exact rahead_any x y u
      clear hN hS
      replace he:=lH he
      replace hl:=lH hl
      have KEs:=lH (KE.out.ext B.out)
      have RE:=lH (Qau KEs.out)
      have hel : Hid (ge < wi.heap.size):=KEs.out.lt
      have RX:=lH (Qac R0.out B.out hb0.out)
      have hbl : Hid (b < wi.heap.size):=Nat.lt_of_lt_of_le hb0.out B.out.size
      refine Qah Qav (by kernel_rfl) ?_
      repeat (first
       | go_big_quiet_skip
       | (refine Qab (Qak RX.out hbl.out) Qbg rfl Qbm rfl rfl ?_; simp only [sqS,sq0])
       | (refine Qab (Qak RE.out hel.out) Qbg rfl Qbm rfl rfl ?_; simp only [sqS,sq0])
       | go_big_quiet_step ((go_at_call 137; exact Qba (HA.out _))))
      refine wpQuiet_nil ?_
      rintro _ ⟨z,rfl⟩
      have B6:=lH (B.out.trans (z.h.mono B.out.size))
      have OW6:=lH (Qap OW.out z.h)
      generalize z.w = w6 at *
      clear OW B RX RE hel hbl KEs
      have KE6:=lH (KE.out.ext B6.out)
      have hbs:=B6.out.size
      have hll : (S1).length ≤ 200001:=by have:=hSl.out; omega
      go_upto_region 9 with (first
       | (refine wpList_load_row rfl 88 _ (by rfl) ge (by rfl) _ _ _ _ KE6.out Qbg rfl Qbm ?_)
       | (refine Qa0 Qeh (Qda x) (by omega) (by rfl) ?_)
       | (at_builtin; refine Qa5 Qeh OW6.out (encE x) rfl (Qes x) hbs (by omega) (by unfold maxLen; omega) (by rfl) (by rfl) (by rfl) ?_; intro vn w7 own1 bel1))
      have OW7 : Hid (w7.ownsRow w2.heap.size 88 6 vn (S1 ++ [x]).length ((S1 ++ [x]).flatMap encE)):=by
       rw [Hid,List.length_append,Qd7]; exact own1
      have B7:=lH (B6.out.trans bel1)
      clear own1 bel1 OW6 B6 hbs hll
      clear KE6
      have KEs:=lH (KE.out.ext B7.out)
      have RE:=lH (Qau KEs.out)
      have hel : Hid (ge < w7.heap.size):=KEs.out.lt
      have RX:=lH (Qac R0.out B7.out hb0.out)
      have hbl : Hid (b < w7.heap.size):=Nat.lt_of_lt_of_le hb0.out B7.out.size
      refine Qah Qav (by kernel_rfl) ?_
      repeat (first
       | go_big_quiet_skip
       | (refine Qab (Qak RX.out hbl.out) Qbg rfl Qbm rfl rfl ?_; simp only [sqS,sq0])
       | (refine Qab (Qak RE.out hel.out) Qbg rfl Qbm rfl rfl ?_; simp only [sqS,sq0])
       | go_big_quiet_step (fail))
      refine wpQuiet_nil ?_
      rintro _ ⟨z,rfl⟩
      have B8:=lH (B7.out.trans (z.h.mono B7.out.size))
      have OW8:=lH (Qap OW7.out z.h)
      generalize z.w = w8 at *
      clear OW7 B7 RX RE hel hbl KEs
      have RX:=lH (Qac R0.out B8.out hb0.out)
      have hbs:=B8.out.size
      have hll : ((S1 ++ [x])).length ≤ 200001:=by rw [List.length_append,List.length_singleton]; have:=hSl.out; omega
      go_wp2_with (first
       | (refine wpList_load_mid rfl 88 _ (by rfl) b (o + k * 6) (by rfl) _ _ RX.out Qbg rfl Qbm ?_)
       | (refine Qa0 Qeh (Qda y) (by omega) (by rfl) ?_)
       | (at_builtin; refine Qa5 Qeh OW8.out (encE y) rfl (Qes y) hbs (by omega) (by unfold maxLen; omega) (by rfl) (by rfl) (by rfl) ?_; intro vn w9 own1 bel1))
      have OW9 : Hid (w9.ownsRow w2.heap.size 88 6 vn ((S1 ++ [x]) ++ [y]).length (((S1 ++ [x]) ++ [y]).flatMap encE)):=by
       rw [Hid,List.length_append,Qd7]; exact own1
      have B9:=lH (B8.out.trans bel1)
      clear own1 bel1 OW8 B8 hbs hll
      go_roundw
      case rel => exact ⟨k + 1,_,by omega,by go_num,hP.out.symm,rfl,OW9.out,B9.out⟩
      case measure => simp [intOf]; omega
     ·have hP:=lH (hN.out.symm.trans (put_later keyE rfl he hl))
      have EQ:=eqE_f he
      have NE:=neE_t he
      have HA : Hid (∀ u,Calls Tryz.prog 137 #[.agg (encE x).toArray,.agg (encE y).toArray] u (RetB u (.bool false))):=fun u => by rw [← dqF hl]; exact rahead_any x y u
      clear hN hS
      replace he:=lH he
      replace hl:=lH hl
      have KEs:=lH (KE.out.ext B.out)
      have RE:=lH (Qau KEs.out)
      have hel : Hid (ge < wi.heap.size):=KEs.out.lt
      have RX:=lH (Qac R0.out B.out hb0.out)
      have hbl : Hid (b < wi.heap.size):=Nat.lt_of_lt_of_le hb0.out B.out.size
      refine Qah Qav (by kernel_rfl) ?_
      repeat (first
       | go_big_quiet_skip
       | (refine Qab (Qak RX.out hbl.out) Qbg rfl Qbm rfl rfl ?_; simp only [sqS,sq0])
       | (refine Qab (Qak RE.out hel.out) Qbg rfl Qbm rfl rfl ?_; simp only [sqS,sq0])
       | go_big_quiet_step ((go_at_call 137; exact Qba (HA.out _))))
      refine wpQuiet_nil ?_
      rintro _ ⟨z,rfl⟩
      have B6:=lH (B.out.trans (z.h.mono B.out.size))
      have OW6:=lH (Qap OW.out z.h)
      generalize z.w = w6 at *
      clear OW B RX RE hel hbl KEs
      go_upto_region 9 with fail
      obtain ⟨w7,rfl⟩ : ∃ wx,wx = w6:=⟨_,rfl⟩
      have B7:=B6
      have OW7:=OW6
      clear B6 OW6
      have KEs:=lH (KE.out.ext B7.out)
      have RE:=lH (Qau KEs.out)
      have hel : Hid (ge < w7.heap.size):=KEs.out.lt
      have RX:=lH (Qac R0.out B7.out hb0.out)
      have hbl : Hid (b < w7.heap.size):=Nat.lt_of_lt_of_le hb0.out B7.out.size
      refine Qah Qav (by kernel_rfl) ?_
      repeat (first
       | go_big_quiet_skip
       | (refine Qab (Qak RX.out hbl.out) Qbg rfl Qbm rfl rfl ?_; simp only [sqS,sq0])
       | (refine Qab (Qak RE.out hel.out) Qbg rfl Qbm rfl rfl ?_; simp only [sqS,sq0])
       | go_big_quiet_step (fail))
      refine wpQuiet_nil ?_
      rintro _ ⟨z,rfl⟩
      have B8:=lH (B7.out.trans (z.h.mono B7.out.size))
      have OW8:=lH (Qap OW7.out z.h)
      generalize z.w = w8 at *
      clear OW7 B7 RX RE hel hbl KEs
      have RX:=lH (Qac R0.out B8.out hb0.out)
      have hbs:=B8.out.size
      have hll : (S1).length ≤ 200001:=by have:=hSl.out; omega
      go_wp2_with (first
       | (refine wpList_load_mid rfl 88 _ (by rfl) b (o + k * 6) (by rfl) _ _ RX.out Qbg rfl Qbm ?_)
       | (refine Qa0 Qeh (Qda y) (by omega) (by rfl) ?_)
       | (at_builtin; refine Qa5 Qeh OW8.out (encE y) rfl (Qes y) hbs (by omega) (by unfold maxLen; omega) (by rfl) (by rfl) (by rfl) ?_; intro vn w9 own1 bel1))
      have OW9 : Hid (w9.ownsRow w2.heap.size 88 6 vn (S1 ++ [y]).length ((S1 ++ [y]).flatMap encE)):=by
       rw [Hid,List.length_append,Qd7]; exact own1
      have B9:=lH (B8.out.trans bel1)
      clear own1 bel1 OW8 B8 hbs hll
      go_roundw
      case rel => exact ⟨k + 1,_,by omega,by go_num,hP.out.symm,rfl,OW9.out,B9.out⟩
      case measure => simp [intOf]; omega
   ·by_cases he : y = x
    ·have hP:=lH (hN.out.symm.trans (put_drop keyE rfl he))
     have NE:=neE_f he
     clear hN hS
     replace he:=lH he
     have KEs:=lH (KE.out.ext B.out)
     have RE:=lH (Qau KEs.out)
     have hel : Hid (ge < wi.heap.size):=KEs.out.lt
     have RX:=lH (Qac R0.out B.out hb0.out)
     have hbl : Hid (b < wi.heap.size):=Nat.lt_of_lt_of_le hb0.out B.out.size
     refine Qah Qav (by kernel_rfl) ?_
     repeat (first
      | go_big_quiet_skip
      | (refine Qab (Qak RX.out hbl.out) Qbg rfl Qbm rfl rfl ?_; simp only [sqS,sq0])
      | (refine Qab (Qak RE.out hel.out) Qbg rfl Qbm rfl rfl ?_; simp only [sqS,sq0])
      | go_big_quiet_step (fail))
     refine wpQuiet_nil ?_
     rintro _ ⟨z,rfl⟩
     have B6:=lH (B.out.trans (z.h.mono B.out.size))
     have OW6:=lH (Qap OW.out z.h)
     generalize z.w = w6 at *
     clear OW B RX RE hel hbl KEs
     go_upto_region 9 with fail
     obtain ⟨w7,rfl⟩ : ∃ wx,wx = w6:=⟨_,rfl⟩
     have B7:=B6
     have OW7:=OW6
     clear B6 OW6
     have KEs:=lH (KE.out.ext B7.out)
     have RE:=lH (Qau KEs.out)
     have hel : Hid (ge < w7.heap.size):=KEs.out.lt
     have RX:=lH (Qac R0.out B7.out hb0.out)
     have hbl : Hid (b < w7.heap.size):=Nat.lt_of_lt_of_le hb0.out B7.out.size
     refine Qah Qav (by kernel_rfl) ?_
     repeat (first
      | go_big_quiet_skip
      | (refine Qab (Qak RX.out hbl.out) Qbg rfl Qbm rfl rfl ?_; simp only [sqS,sq0])
      | (refine Qab (Qak RE.out hel.out) Qbg rfl Qbm rfl rfl ?_; simp only [sqS,sq0])
      | go_big_quiet_step (fail))
     refine wpQuiet_nil ?_
     rintro _ ⟨z,rfl⟩
     have B8:=lH (B7.out.trans (z.h.mono B7.out.size))
     have OW8:=lH (Qap OW7.out z.h)
     generalize z.w = w8 at *
     clear OW7 B7 RX RE hel hbl KEs
     go_wp2_with fail
     go_roundw
     case rel => exact ⟨k + 1,_,by omega,by go_num,hP.out.symm,rfl,OW8.out,B8.out⟩
     case measure => simp [intOf]; omega
    ·have hP:=lH (hN.out.symm.trans (put_yes keyE rfl he))
     have NE:=neE_t he
     clear hN hS
     replace he:=lH he
     have KEs:=lH (KE.out.ext B.out)
     have RE:=lH (Qau KEs.out)
     have hel : Hid (ge < wi.heap.size):=KEs.out.lt
     have RX:=lH (Qac R0.out B.out hb0.out)
     have hbl : Hid (b < wi.heap.size):=Nat.lt_of_lt_of_le hb0.out B.out.size
     refine Qah Qav (by kernel_rfl) ?_
     repeat (first
      | go_big_quiet_skip
      | (refine Qab (Qak RX.out hbl.out) Qbg rfl Qbm rfl rfl ?_; simp only [sqS,sq0])
      | (refine Qab (Qak RE.out hel.out) Qbg rfl Qbm rfl rfl ?_; simp only [sqS,sq0])
      | go_big_quiet_step (fail))
     refine wpQuiet_nil ?_
     rintro _ ⟨z,rfl⟩
     have B6:=lH (B.out.trans (z.h.mono B.out.size))
     have OW6:=lH (Qap OW.out z.h)
     generalize z.w = w6 at *
     clear OW B RX RE hel hbl KEs
     go_upto_region 9 with fail
     obtain ⟨w7,rfl⟩ : ∃ wx,wx = w6:=⟨_,rfl⟩
     have B7:=B6
     have OW7:=OW6
     clear B6 OW6
     have KEs:=lH (KE.out.ext B7.out)
     have RE:=lH (Qau KEs.out)
     have hel : Hid (ge < w7.heap.size):=KEs.out.lt
     have RX:=lH (Qac R0.out B7.out hb0.out)
     have hbl : Hid (b < w7.heap.size):=Nat.lt_of_lt_of_le hb0.out B7.out.size
     refine Qah Qav (by kernel_rfl) ?_
     repeat (first
      | go_big_quiet_skip
      | (refine Qab (Qak RX.out hbl.out) Qbg rfl Qbm rfl rfl ?_; simp only [sqS,sq0])
      | (refine Qab (Qak RE.out hel.out) Qbg rfl Qbm rfl rfl ?_; simp only [sqS,sq0])
      | go_big_quiet_step (fail))
     refine wpQuiet_nil ?_
     rintro _ ⟨z,rfl⟩
     have B8:=lH (B7.out.trans (z.h.mono B7.out.size))
     have OW8:=lH (Qap OW7.out z.h)
     generalize z.w = w8 at *
     clear OW7 B7 RX RE hel hbl KEs
     have RX:=lH (Qac R0.out B8.out hb0.out)
     have hbs:=B8.out.size
     have hll : (S1).length ≤ 200001:=by have:=hSl.out; omega
     go_wp2_with (first
      | (refine wpList_load_mid rfl 88 _ (by rfl) b (o + k * 6) (by rfl) _ _ RX.out Qbg rfl Qbm ?_)
      | (refine Qa0 Qeh (Qda y) (by omega) (by rfl) ?_)
      | (at_builtin; refine Qa5 Qeh OW8.out (encE y) rfl (Qes y) hbs (by omega) (by unfold maxLen; omega) (by rfl) (by rfl) (by rfl) ?_; intro vn w9 own1 bel1))
     have OW9 : Hid (w9.ownsRow w2.heap.size 88 6 vn (S1 ++ [y]).length ((S1 ++ [y]).flatMap encE)):=by
      rw [Hid,List.length_append,Qd7]; exact own1
     have B9:=lH (B8.out.trans bel1)
     clear own1 bel1 OW8 B8 hbs hll
     go_roundw
     case rel => exact ⟨k + 1,_,by omega,by go_num,hP.out.symm,rfl,OW9.out,B9.out⟩
     case measure => simp [intOf]; omega
  ·have hlk : ¬ (k : Int) < (n : Int):=by omega
   have hF : Hid (endK x S = insK keyE x l):=by
    have h1:=hS.out
    rw [List.take_of_length_le (by rw [hln.out]; omega)] at h1
    rw [Hid,h1]; exact E.out
   have hbs:=B.out.size
   have hl2:=hSl.out
   have KE5:=lH (KE.out.ext B.out)
   have BF:=lH (B0.out.trans (B.out.mono B0.out.size))
   clear hS E B
   obtain ⟨S1,S2⟩:=S
   replace OW : Hid (wi.ownsRow w2.heap.size 88 6 _ S1.length (S1.flatMap encE)):=OW
   replace hl2 : S1.length ≤ 200000:=hl2
   cases S2
   ·go_wp2_with (first
     | (refine wpList_load_row rfl 88 _ (by rfl) ge (by rfl) _ _ _ _ KE5.out Qbg rfl Qbm ?_)
     | (refine Qa0 Qeh (Qda x) (by omega) (by rfl) ?_)
     | (at_builtin; refine Qa5 Qeh OW.out (encE x) rfl (Qes x) hbs (by omega) (by unfold maxLen; omega) (by rfl) (by rfl) (by rfl) ?_; intro v1 w6 own1 bel1))
    have BF:=lH (BF.out.trans (bel1.mono hw2.out))
    have own1:=lH own1
    obtain ⟨A9,c9,rfl,_,_⟩:=Sl.of_own own1.out
    clear bel1 OW
    go_wp2
    go_ret
    have hF2 : insK keyE x l = S1 ++ [x]:=hF.out.symm
    rw [hF2]
    refine ⟨_,rfl, ?_,BF.out⟩
    rw [List.length_append,Qd7]
    exact Qbk own1.out hw2.out
   ·obtain ⟨A9,c9,rfl,_,_⟩:=Sl.of_own OW.out
    go_wp2
    go_ret
    have hF2 : insK keyE x l = S1:=hF.out.symm
    rw [hF2]
    exact ⟨_,rfl,Qbk OW.out hw2.out,BF.out⟩
end Go.Proofs.YtdafiipedlglpaaGreat

/- The document's graph: the names of all vertices; all steps: walked. -/
namespace Go.Proofs.YtdafiipedlglpaaGreat
open Go.RowKit

def idsK (p : PatV) (k : Nat) : List VidV:=(List.range k).filterMap fun (i : Nat) => match p.2.2[i]? with | some o => if Qc2 o = true then some (Qb0 p.1 ((i : Nat) : Int)) else none | none => none
theorem idsK_all (p : PatV) : idsK p p.2.2.length = idsP p:=rfl
theorem idsK_yes {p : PatV} {k : Nat} {o : OpV} (h : p.2.2[k]? = some o) (hm : Qc2 o = true) : idsK p (k + 1) = idsK p k ++ [Qb0 p.1 ((k : Nat) : Int)]:=by
 unfold idsK
 rw [List.range_succ,List.filterMap_append]
 simp [h,hm]
theorem idsK_no {p : PatV} {k : Nat} {o : OpV} (h : p.2.2[k]? = some o) (hm : Qc2 o = false) : idsK p (k + 1) = idsK p k:=by
 unfold idsK
 rw [List.range_succ,List.filterMap_append]
 simp [h,hm]
theorem idsK_len (p : PatV) (k : Nat) : (idsK p k).length ≤ k:=by
 unfold idsK
 refine Nat.le_trans (List.length_filterMap_le _ _) ?_
 rw [List.length_range]
 exact Nat.le_refl _
theorem idsOf_take {L : List PatV} {k : Nat} {p : PatV} (h : L[k]? = some p) : Qdr (L.take (k + 1)) = Qdr (L.take k) ++ idsP p:=by
 unfold Qdr
 rw [List.take_add_one,h,List.flatMap_append]
 simp
theorem Qil (L : List PatV) {m : Nat} (h : ∀ p ∈ L,p.2.2.length ≤ m) : (Qdr L).length ≤ L.length * m:=by
 induction L with
 | nil => simp [Qdr]
 | cons p L ih =>
  have h1 : (idsP p).length ≤ p.2.2.length:=idsK_len p _
  have h2:=h p (List.mem_cons_self ..)
  have h3:=ih fun q hq => h q (List.mem_cons_of_mem _ hq)
  have e : (Qdr (p :: L)).length = (idsP p).length + (Qdr L).length:=by unfold Qdr; rw [List.flatMap_cons,List.length_append]
  rw [e,List.length_cons,Nat.succ_mul]
  omega
theorem flat_snocV20 (mo : List VidV) (y : VidV) : (mo ++ [y]).flatMap encV = mo.flatMap encV ++ encV y:=by simp
def Qc7 (p : PatV) (k : Nat) : List Qbv:=(p.2.2.take k).filterMap edgeO
theorem stepsK_all {p : PatV} {k : Nat} (h : p.2.2.length ≤ k) : Qc7 p k = Qgj p:=by unfold Qc7 Qgj; rw [List.take_of_length_le h]
theorem stepsK_yes {p : PatV} {k : Nat} {o : OpV} (h : p.2.2[k]? = some o) (hm : o.1.val = 4) : Qc7 p (k + 1) = Qc7 p k ++ [(o.2.1,o.2.2.1)]:=by
 unfold Qc7
 rw [List.take_add_one,h,List.filterMap_append]
 simp [edgeO,hm]
theorem stepsK_no {p : PatV} {k : Nat} {o : OpV} (h : p.2.2[k]? = some o) (hm : o.1.val ≠ 4) : Qc7 p (k + 1) = Qc7 p k:=by
 unfold Qc7
 rw [List.take_add_one,h,List.filterMap_append]
 simp [edgeO,hm]
theorem stepsK_len (p : PatV) (k : Nat) : (Qc7 p k).length ≤ p.2.2.length:=by
 unfold Qc7
 refine Nat.le_trans (List.length_filterMap_le _ _) ?_
 rw [List.length_take]; omega
theorem edgesOf_take {L : List PatV} {k : Nat} {p : PatV} (h : L[k]? = some p) : Qbc (L.take (k + 1)) = Qbc (L.take k) ++ Qgj p:=by
 unfold Qbc
 rw [List.take_add_one,h,List.flatMap_append]
 simp
theorem Qhr (L : List PatV) {m : Nat} (h : ∀ p ∈ L,p.2.2.length ≤ m) : (Qbc L).length ≤ L.length * m:=by
 induction L with
 | nil => simp [Qbc]
 | cons p L ih =>
  have h1 : (Qgj p).length ≤ p.2.2.length:=List.length_filterMap_le _ _
  have h2:=h p (List.mem_cons_self ..)
  have h3:=ih fun q hq => h q (List.mem_cons_of_mem _ hq)
  have e : (Qbc (p :: L)).length = (Qgj p).length + (Qbc L).length:=by unfold Qbc; rw [List.flatMap_cons,List.length_append]
  rw [e,List.length_cons,Nat.succ_mul]
  omega
theorem len_take {L : List PatV} {m : Nat} (h : ∀ p ∈ L,p.2.2.length ≤ m) (k : Nat) : ∀ p ∈ L.take k,p.2.2.length ≤ m:=fun p hp => h p (List.mem_of_mem_take hp)
theorem Qhx {P : Program} {ops : Array Oper} {rest : List Oper} {d : Option Tmp} {ty : TypeId} {pos : String} {after : Array Edge} {a : Act} {w : World} {Q : Exit → Act → World → Prop} {t : TypeId} {i1 i2 : Nat} {x1 x2 : Operand} {v1 v2 v : Value}
  (h1 : a.eval x1 = v1) (h2 : a.eval x2 = v2) (hr : (Instr.build t #[(i1,v1),(i2,v2)]).run P w = .ok v w) (h : wpList P ops Q rest (a.put d v) w) : wpList P ops Q (⟨d,.build t #[(i1,x1),(i2,x2)],ty,pos,after,none⟩ :: rest) a w:=
 Qcj hr (by simp [h1,h2]) h
theorem opv_kind20 {w : World} {b o : Nat} {x : OpV} (h : w.rangeAt b o (encO x)) : w.cell? ⟨b,o,none⟩ = some (.int .u8 ((x.1.val : Nat) : Int)):=h 0 _ rfl
set_option maxRecDepth 100000 in
set_option maxHeartbeats 8000000 in
theorem rids20_any (L : List PatV) (w : World) (A : Option Addr) (n c : Nat) (h : PatsAt w A n L) (hn : n ≤ 400) (h200 : ∀ p ∈ L,p.2.2.length ≤ 200) :
  Calls Tryz.prog 57 #[.agg #[.slice A n c]] w (OwnedRet w 27 3 (idsL L).length ((idsL L).flatMap encV)):=by
 have KG : Hid (Blk (w.alloc (.cells #[.slice A n c] 33)) w.heap.size 33 #[.slice A n c]):=Blk.new _ _ _
 have B0 : Hid (Below w.heap.size w (w.alloc (.cells #[.slice A n c] 33))):=Qaf _ _
 have PT:=lH (h.ext B0.out)
 have hln:=lH h.len
 have h200:=lH h200
 clear h
 go_enter Tryz.func57,Tryz.ntmps57
 go_upto_region 1 with fail
 generalize (w.alloc (.cells #[.slice A n c] 33)) = w2 at *
 have hw2 : Hid (w.heap.size ≤ w2.heap.size):=B0.out.size
 obtain ⟨gg,hgg⟩ : ∃ g,g = w.heap.size:=⟨_,rfl⟩
 rw [← hgg] at KG ⊢
 replace hgg:=lH hgg
 have BS:=lH (Below.refl w2.heap.size w2)
 go_wp2_with fail
 go_loopw [4,3] (fun i v wr => ∃ k : Nat,k ≤ n ∧ i = .int .i64 k ∧ Hid (wr.ownsRow w2.heap.size 27 3 v (Qdr (L.take k)).length ((Qdr (L.take k)).flatMap encV)) ∧ Hid (Below w2.heap.size w2 wr)) (fun i _ _ => n - (intOf i).toNat)
 case atStart => exact ⟨0,by omega,rfl,World.ownsRow_nil _ _ _ _,BS.out⟩
 case round =>
  clear BS
  obtain ⟨k,hk,rfl,OW,B⟩:=hrel
  obtain ⟨wi,rfl⟩ : ∃ wx,wx = wr:=⟨_,rfl⟩
  have hk0 : (0 : Int) ≤ (k : Int):=by omega
  have yg : wi.cell? ⟨gg,0,none⟩ = some (.slice A n c):=(KG.out.ext B.out).cell 0
  by_cases hlt : k < n
  ·have hlk : (k : Int) < (n : Int):=by omega
   obtain ⟨b,o,p,r,rfl,hb,hp,pa,hr⟩:=PT.out.at_ hlt
   obtain ⟨⟨A1,c1,A2,c2,rfl,_,O2⟩,_,hm2⟩:=pa
   have OP:=lH O2
   have RP:=lH hr
   have hb:=lH hb
   have hpm:=h200.out p (List.mem_of_getElem? hp)
   have hTK : (Qdr (L.take k)).length ≤ 80000:=by
    have h1:=Qil (L.take k) (len_take h200.out k)
    rw [List.length_take,hln.out] at h1
    have h2 : min k n * 200 ≤ 400 * 200:=Nat.mul_le_mul_right _ (by omega)
    omega
   have hTK:=lH hTK
   have hp:=lH hp
   obtain ⟨m,hmm⟩ : ∃ m,m = p.2.2.length:=⟨_,rfl⟩
   rw [← hmm] at OP RP hm2 hpm
   replace hmm:=lH hmm
   unfold maxLen at hm2
   clear hr O2
   go_wp2_with fail
   clear yg
   go_loopw [5,3] (fun i v wr => ∃ j : Nat,j ≤ m ∧ i = .int .i64 j ∧ Hid (wr.ownsRow w2.heap.size 27 3 v (Qdr (L.take k) ++ idsK p j).length ((Qdr (L.take k) ++ idsK p j).flatMap encV)) ∧ Hid (Below w2.heap.size w2 wr)) (fun i _ _ => m - (intOf i).toNat)
   case atStart => exact ⟨0,by omega,rfl,by rw [Hid,show idsK p 0 = [] from rfl,List.append_nil]; exact OW.out,B.out⟩
   case round =>
    clear B OW
    obtain ⟨j,hj,rfl,OW,B⟩:=hrel
    obtain ⟨wj,rfl⟩ : ∃ wx,wx = wr:=⟨_,rfl⟩
    have hj0 : (0 : Int) ≤ (j : Int):=by omega
    have hbs:=B.out.size
    have yg : wj.cell? ⟨gg,0,none⟩ = some (.slice (some ⟨b,o,none⟩) n c):=(KG.out.ext B.out).cell 0
    have yo : wj.cell? ⟨b,o + k * 4 + 3,none⟩ = some (.slice A2 m c2):=Qac RP.out B.out hb.out 3 _ rfl
    by_cases hjt : j < m
    ·have hlj : (j : Int) < (m : Int):=by omega
     obtain ⟨b2,o2,x,rfl,hb2,hx,hr2,_⟩:=OP.out.at_ hjt
     have RO:=lH (Qac hr2 B.out hb2)
     have RI:=lH (Qh9 (Qac RP.out B.out hb.out))
     have HMk:=lH (rmakes20_any ((x.1.val : Nat) : Int) wj ⟨by omega,by have:=x.1.isLt; omega⟩)
     rw [Qif] at HMk
     have yk : wj.cell? ⟨b2,o2 + j * 8,none⟩ = some (.int .u8 ((x.1.val : Nat) : Int)):=opv_kind20 RO.out
     have hKL:=idsK_len p j
     have hl1 : (Qdr (L.take k) ++ idsK p j).length ≤ 80200:=by rw [List.length_append]; have:=hTK.out; omega
     clear hr2 hb2
     by_cases mk : Qc2 x = true
     ·rw [mk] at HMk
      have N : Hid (Qdr (L.take k) ++ idsK p (j + 1) = (Qdr (L.take k) ++ idsK p j) ++ [Qb0 p.1 ((j : Nat) : Int)]):=by rw [Hid,idsK_yes hx mk,List.append_assoc]
      clear mk hx
      go_wp2_with fail
      refine HMk.out.mono ?_
      rintro e _ ⟨rfl,rfl⟩
      have HVd:=lH (fun u => rvid18_any p.1 ((j : Nat) : Int) u)
      clear HMk yk
      go_wp2_with (refine wpList_load_mid rfl 25 _ (by rfl) b (o + k * 4) (by rfl) _ _ RI.out Qan rfl Qaq ?_)
      refine (HVd.out wj).mono ?_
      rintro e w5 ⟨rfl,b5⟩
      have O5:=lH (Qap OW.out b5)
      have B5:=lH (B.out.trans (b5.mono B.out.size))
      have hb5:=B5.out.size
      clear b5 OW B HVd RI RO yg yo hbs
      generalize Qb0 p.1 ((j : Nat) : Int) = v at *
      go_wp2_with (first
       | (refine Qa0 Qfq (Qdk v) (by omega) (by rfl) ?_)
       | (at_builtin; refine Qa5 Qfq O5.out (encV v) rfl (Qc9 v) hb5 (by omega) (by unfold maxLen; omega) (by rfl) (by rfl) (by rfl) ?_; intro v1 w6 own1 bel1))
      have O6 : Hid (w6.ownsRow w2.heap.size 27 3 v1 (Qdr (L.take k) ++ idsK p (j + 1)).length ((Qdr (L.take k) ++ idsK p (j + 1)).flatMap encV)):=by
       rw [Hid,N.out,List.length_append,flat_snocV20]; exact own1
      have B6:=lH (B5.out.trans bel1)
      clear own1 bel1 O5 B5 N
      go_roundw
      case rel => exact ⟨j + 1,by omega,by go_num,O6.out,B6.out⟩
      case measure => simp [intOf]; omega
     ·rw [Bool.not_eq_true] at mk
      rw [mk] at HMk
      have N : Hid (idsK p (j + 1) = idsK p j):=idsK_no hx mk
      rw [← N.out] at OW
      clear mk hx RI
      go_wp2_with fail
      refine HMk.out.mono ?_
      rintro e _ ⟨rfl,rfl⟩
      clear HMk yk
      go_wp2_with fail
      go_roundw
      case rel => exact ⟨j + 1,by omega,by go_num,OW.out,B.out⟩
      case measure => simp [intOf]; omega
    ·have hlj : ¬ (j : Int) < (m : Int):=by omega
     have N : Hid (Qdr (L.take k) ++ idsK p j = Qdr (L.take (k + 1))):=by
      rw [Hid,idsOf_take hp.out]
      rw [show j = p.2.2.length by have:=hmm.out; omega,idsK_all]
     go_wp2_with fail
     go_roundw
     case rel => exact ⟨k + 1,by omega,by go_num,by rw [← N.out]; exact OW.out,B.out⟩
     case measure => simp [intOf]; omega
  ·have hlk : ¬ (k : Int) < (n : Int):=by omega
   have hbs:=B.out.size
   have BF:=lH (B0.out.trans (B.out.mono B0.out.size))
   rw [List.take_of_length_le (by rw [hln.out]; omega)] at OW
   have hIL : Hid ((Qdr L).length ≤ 80000):=by have h1:=Qil L h200.out; rw [hln.out] at h1; rw [Hid]; omega
   obtain ⟨A9,c9,rfl,_,s9⟩:=Sl.of_own OW.out
   have HS:=lH (rsetV_own (Qdr L) wi A9 (Qdr L).length c9 ⟨rfl,s9⟩ (by have:=hIL.out; omega))
   clear s9
   go_wp2_with fail
   refine HS.out.mono ?_
   rintro e w4 ⟨v4,rfl,o4,b4⟩
   have O4:=lH o4
   have BF:=lH (BF.out.trans (b4.mono BF.out.size))
   have hww : Hid (w.heap.size ≤ wi.heap.size):=Nat.le_trans hw2.out hbs
   clear o4 b4 HS
   obtain ⟨A8,c8,rfl,_,_⟩:=Sl.of_own O4.out
   go_wp2_with fail
   go_ret
   exact ⟨_,rfl,Qbk O4.out hww.out,BF.out⟩
set_option maxRecDepth 100000 in
set_option maxHeartbeats 8000000 in
theorem redges20_any (L : List PatV) (w : World) (A : Option Addr) (n c : Nat) (h : PatsAt w A n L) (hn : n ≤ 400) (h200 : ∀ p ∈ L,p.2.2.length ≤ 200) :
  Calls Tryz.prog 73 #[.agg #[.slice A n c]] w (OwnedRet w 88 6 (Qd4 L).length ((Qd4 L).flatMap encE)):=by
 have KG : Hid (Blk (w.alloc (.cells #[.slice A n c] 33)) w.heap.size 33 #[.slice A n c]):=Blk.new _ _ _
 have B0 : Hid (Below w.heap.size w (w.alloc (.cells #[.slice A n c] 33))):=Qaf _ _
 have PT:=lH (h.ext B0.out)
 have hln:=lH h.len
 have h200:=lH h200
 clear h
 go_enter Tryz.func73,Tryz.ntmps73
 go_upto_region 1 with fail
 generalize (w.alloc (.cells #[.slice A n c] 33)) = w2 at *
 have hw2 : Hid (w.heap.size ≤ w2.heap.size):=B0.out.size
 obtain ⟨gg,hgg⟩ : ∃ g,g = w.heap.size:=⟨_,rfl⟩
 rw [← hgg] at KG ⊢
 replace hgg:=lH hgg
 have BS:=lH (Below.refl w2.heap.size w2)
 go_wp2_with fail
 go_loopw [4,3] (fun i v wr => ∃ k : Nat,k ≤ n ∧ i = .int .i64 k ∧ Hid (wr.ownsRow w2.heap.size 88 6 v (setK keyE (Qbc (L.take k))).length ((setK keyE (Qbc (L.take k))).flatMap encE)) ∧ Hid (Below w2.heap.size w2 wr)) (fun i _ _ => n - (intOf i).toNat)
 case atStart => exact ⟨0,by omega,rfl,World.ownsRow_nil _ _ _ _,BS.out⟩
 case round =>
  clear BS
  obtain ⟨k,hk,rfl,OW,B⟩:=hrel
  obtain ⟨wi,rfl⟩ : ∃ wx,wx = wr:=⟨_,rfl⟩
  have hk0 : (0 : Int) ≤ (k : Int):=by omega
  have yg : wi.cell? ⟨gg,0,none⟩ = some (.slice A n c):=(KG.out.ext B.out).cell 0
  by_cases hlt : k < n
  ·have hlk : (k : Int) < (n : Int):=by omega
   obtain ⟨b,o,p,r,rfl,hb,hp,pa,hr⟩:=PT.out.at_ hlt
   obtain ⟨⟨A1,c1,A2,c2,rfl,_,O2⟩,_,hm2⟩:=pa
   have OP:=lH O2
   have RP:=lH hr
   have hb:=lH hb
   have hpm:=h200.out p (List.mem_of_getElem? hp)
   have hTK : (Qbc (L.take k)).length ≤ 80000:=by
    have h1:=Qhr (L.take k) (len_take h200.out k)
    rw [List.length_take,hln.out] at h1
    have h2 : min k n * 200 ≤ 400 * 200:=Nat.mul_le_mul_right _ (by omega)
    omega
   have hTK:=lH hTK
   have hp:=lH hp
   obtain ⟨m,hmm⟩ : ∃ m,m = p.2.2.length:=⟨_,rfl⟩
   rw [← hmm] at OP RP hm2 hpm
   replace hmm:=lH hmm
   unfold maxLen at hm2
   clear hr O2
   go_wp2_with fail
   clear yg
   go_loopw [5,3] (fun i v wr => ∃ j : Nat,j ≤ m ∧ i = .int .i64 j ∧ Hid (wr.ownsRow w2.heap.size 88 6 v (setK keyE (Qbc (L.take k) ++ Qc7 p j)).length ((setK keyE (Qbc (L.take k) ++ Qc7 p j)).flatMap encE)) ∧ Hid (Below w2.heap.size w2 wr)) (fun i _ _ => m - (intOf i).toNat)
   case atStart => exact ⟨0,by omega,rfl,by rw [Hid,show Qc7 p 0 = [] from rfl,List.append_nil]; exact OW.out,B.out⟩
   case round =>
    clear B OW
    obtain ⟨j,hj,rfl,OW,B⟩:=hrel
    obtain ⟨wj,rfl⟩ : ∃ wx,wx = wr:=⟨_,rfl⟩
    have hj0 : (0 : Int) ≤ (j : Int):=by omega
    have hbs:=B.out.size
    have yg : wj.cell? ⟨gg,0,none⟩ = some (.slice (some ⟨b,o,none⟩) n c):=(KG.out.ext B.out).cell 0
    have yo : wj.cell? ⟨b,o + k * 4 + 3,none⟩ = some (.slice A2 m c2):=Qac RP.out B.out hb.out 3 _ rfl
    by_cases hjt : j < m
    ·have hlj : (j : Int) < (m : Int):=by omega
     obtain ⟨b2,o2,x,rfl,hb2,hx,hr2,_⟩:=OP.out.at_ hjt
     have RO:=lH (Qac hr2 B.out hb2)
     have RI:=lH (Qh9 (Qac RP.out B.out hb.out))
     have KO : Hid (Blk ((wj.alloc (.cells #[.int .u8 0,.int .u8 0,.int .u16 0,.int .u8 0,.int .u8 0,.int .u16 0,.int .u8 0,.string ByteArray.empty] 70)).setRow wj.heap.size (encO x).toArray) wj.heap.size 70 (encO x).toArray):=(Blk.new _ _ _).row _
     have BA : Hid (Below wj.heap.size wj ((wj.alloc (.cells #[.int .u8 0,.int .u8 0,.int .u16 0,.int .u8 0,.int .u8 0,.int .u16 0,.int .u8 0,.string ByteArray.empty] 70)).setRow wj.heap.size (encO x).toArray)):=Qad ((Below.refl _ _).alloc (Nat.le_refl _) _) (Nat.le_refl _) _
     clear hr2 hb2 RI
     go_upto_region 9 with (first
      | (refine wpList_load_mid rfl 70 _ (by rfl) b2 (o2 + j * 8) (by rfl) _ _ RO.out Qck rfl Qcf ?_)
      | (refine Qam (Qiz _) ?_)
      | (refine wpList_store_row rfl 70 _ _ (by rfl) wj.heap.size (encO x).toArray (by rfl) (by rfl) _ _ (Blk.new _ _ _) Qcf rfl (encO_all _) ?_))
     have B8:=lH (B.out.trans (BA.out.mono B.out.size))
     have OW8:=lH (Qap OW.out BA.out)
     clear BA B OW yg yo RO hbs
     generalize ((wj.alloc (.cells #[.int .u8 0,.int .u8 0,.int .u16 0,.int .u8 0,.int .u8 0,.int .u16 0,.int .u8 0,.string ByteArray.empty] 70)).setRow wj.heap.size (encO x).toArray) = w8 at *
     generalize wj.heap.size = go at *
     have yk : w8.cell? ⟨go,0,none⟩ = some (.int .u8 ((x.1.val : Nat) : Int)):=KO.out.cell 0
     have hbs:=B8.out.size
     by_cases h4 : x.1.val = 4
     ·have z4 : (((x.1.val : Nat) : Int) == 4) = true:=by rw [beq_iff_eq]; omega
      have N : Hid (setK keyE (Qbc (L.take k) ++ Qc7 p (j + 1)) = insK keyE (x.2.1,x.2.2.1) (setK keyE (Qbc (L.take k) ++ Qc7 p j))):=by rw [Hid,stepsK_yes hx h4,← List.append_assoc,setK_snoc20]
      have RA:=lH (opv_at (Qau KO.out))
      have RT:=lH (opv_to (Qau KO.out))
      have hRS : Hid (Qfa keyE (setK keyE (Qbc (L.take k) ++ Qc7 p j))):=Qh3 Qg8 _
      have hSL : Hid ((setK keyE (Qbc (L.take k) ++ Qc7 p j)).length ≤ 80200):=by
       have h1:=Qej (key:=keyE) (Qbc (L.take k) ++ Qc7 p j)
       have h2:=stepsK_len p j
       rw [List.length_append] at h1
       have:=hTK.out
       have:=hmm.out
       rw [Hid]; omega
      generalize setK keyE (Qbc (L.take k) ++ Qc7 p j) = l0 at *
      obtain ⟨A7,c7,rfl,_,s7⟩:=Sl.of_own OW8.out
      have HP:=lH (rput20_any l0 (x.2.1,x.2.2.1) hRS.out w8 A7 l0.length c7 ⟨rfl,s7⟩ (by have:=hSL.out; omega))
      replace h4:=lH h4
      clear s7 hx
      go_wp2_with (first
       | (refine wpList_load_mid rfl 27 _ (by rfl) go (0 + 1) (by rfl) _ _ RA.out Qaj rfl Qal ?_)
       | (refine wpList_load_mid rfl 27 _ (by rfl) go (0 + 4) (by rfl) _ _ RT.out Qaj rfl Qal ?_)
       | (refine Qhx (v1:=.agg (encV x.2.1).toArray) (v2:=.agg (encV x.2.2.1).toArray) rfl rfl (buildEdge x.2.1 x.2.2.1 _) ?_))
      refine HP.out.mono ?_
      rintro e w9 ⟨v9,rfl,o9,b9⟩
      have O9 : Hid (w9.ownsRow w2.heap.size 88 6 v9 (setK keyE (Qbc (L.take k) ++ Qc7 p (j + 1))).length ((setK keyE (Qbc (L.take k) ++ Qc7 p (j + 1))).flatMap encE)):=by
       rw [Hid,N.out]; exact Qbk o9 hbs
      have B9:=lH (B8.out.trans (b9.mono B8.out.size))
      clear o9 b9 HP OW8 B8 N yk
      go_wp2_with fail
      go_roundw
      case rel => exact ⟨j + 1,by omega,by go_num,O9.out,B9.out⟩
      case measure => simp [intOf]; omega
     ·have z4 : (((x.1.val : Nat) : Int) == 4) = false:=by rw [beq_eq_false_iff_ne]; omega
      have N : Hid (Qc7 p (j + 1) = Qc7 p j):=stepsK_no hx h4
      rw [← N.out] at OW8
      replace h4:=lH h4
      clear hx
      go_wp2_with fail
      go_roundw
      case rel => exact ⟨j + 1,by omega,by go_num,OW8.out,B8.out⟩
      case measure => simp [intOf]; omega
    ·have hlj : ¬ (j : Int) < (m : Int):=by omega
     have N : Hid (setK keyE (Qbc (L.take k) ++ Qc7 p j) = setK keyE (Qbc (L.take (k + 1)))):=by
      rw [Hid,edgesOf_take hp.out]
      rw [stepsK_all (by have:=hmm.out; omega)]
     go_wp2_with fail
     go_roundw
     case rel => exact ⟨k + 1,by omega,by go_num,by rw [← N.out]; exact OW.out,B.out⟩
     case measure => simp [intOf]; omega
  ·have hlk : ¬ (k : Int) < (n : Int):=by omega
   have hbs:=B.out.size
   have BF:=lH (B0.out.trans (B.out.mono B0.out.size))
   rw [List.take_of_length_le (by rw [hln.out]; omega)] at OW
   obtain ⟨A9,c9,rfl,_,_⟩:=Sl.of_own OW.out
   go_wp2_with fail
   go_ret
   exact ⟨_,rfl,Qbk OW.out hw2.out,BF.out⟩
end Go.Proofs.YtdafiipedlglpaaGreat

/- The document's graph: all vertices, all files, what is of a kind, a file's steps: walked. -/
namespace Go.Proofs.YtdafiipedlglpaaGreat
open Go.RowKit

theorem indexV20 (b o n c k : Nat) (hk : k < n) (w : World) : (Instr.indexAt 35 (.slice (some ⟨b,o,none⟩) n c) (.int .i64 ((k : Nat) : Int))).run Tryz.prog w = .ok (.pointer (some ⟨b,o + k * 3,none⟩)) w:=by
 have h0 : (0 : Int) ≤ (k : Int):=by omega
 have h1 : (k : Int) < (n : Int):=by omega
 simp [go_sem,h0,h1]
theorem indexE20 (b o n c k : Nat) (hk : k < n) (w : World) : (Instr.indexAt 85 (.slice (some ⟨b,o,none⟩) n c) (.int .i64 ((k : Nat) : Int))).run Tryz.prog w = .ok (.pointer (some ⟨b,o + k * 6,none⟩)) w:=by
 have h0 : (0 : Int) ≤ (k : Int):=by omega
 have h1 : (k : Int) < (n : Int):=by omega
 simp [go_sem,h0,h1]
theorem index0E20 (b o : Nat) (w : World) : (Instr.indexAt 88 (.pointer (some ⟨b,o,none⟩)) (.int .i64 0)).run Tryz.prog w = .ok (.pointer (some ⟨b,o,none⟩)) w:=by simp [go_sem]
theorem flat_snocX20 (mo : List Qa4) (y : Qa4) : (mo ++ [y]).flatMap encX = mo.flatMap encX ++ encX y:=by simp
theorem Qgp {α : Type} {l : List α} {k : Nat} {x : α} (h : l[k]? = some x) : l.take (k + 1) = l.take k ++ [x]:=by
 rw [List.take_add_one,h]; rfl
theorem filt_t {α : Type} {q : α → Bool} {l : List α} {k : Nat} {x : α} (h : l[k]? = some x) (hq : q x = true) : (l.take (k + 1)).filter q = (l.take k).filter q ++ [x]:=by
 rw [Qgp h,List.filter_append]; simp [hq]
theorem filt_f {α : Type} {q : α → Bool} {l : List α} {k : Nat} {x : α} (h : l[k]? = some x) (hq : q x = false) : (l.take (k + 1)).filter q = (l.take k).filter q:=by
 rw [Qgp h,List.filter_append]; simp [hq]
theorem filt_le {α : Type} (q : α → Bool) (l : List α) (k : Nat) {m : Nat} (h : l.length ≤ m) : ((l.take k).filter q).length ≤ m:=by
 refine Nat.le_trans (List.length_filter_le _ _) ?_
 rw [List.length_take]; omega
theorem x_vid20 {w : World} {b o : Nat} {x : Qa4} (h : w.rangeAt b o (encX x)) : w.rangeAt b o (encV x.1):=fun j v hj =>
 match j,hj with
 | 0,hj => h 0 v hj
 | 1,hj => h 1 v hj
 | 2,hj => h 2 v hj
 | j + 3,hj => by simp [encV] at hj
theorem x_file20 {w : World} {b o : Nat} {x : Qa4} (h : w.rangeAt b o (encX x)) : w.rangeAt b (o + 4) (encV x.2.2.1):=fun j v hj =>
 match j,hj with
 | 0,hj => h 4 v hj
 | 1,hj => h 5 v hj
 | 2,hj => h 6 v hj
 | j + 3,hj => by simp [encV] at hj
theorem x_kind20 {w : World} {b o : Nat} {x : Qa4} (h : w.rangeAt b o (encX x)) : w.cell? ⟨b,o + 3,none⟩ = some (.int .u8 ((x.2.1.val : Nat) : Int)):=h 3 _ rfl
theorem idsL_len (L : List PatV) {n : Nat} (hl : L.length = n) (hn : n ≤ 400) (h200 : ∀ p ∈ L,p.2.2.length ≤ 200) : (idsL L).length ≤ 80000:=by
 have h1:=Qej (key:=keyV) (Qdr L)
 have h2:=Qil L h200
 have h3 : L.length * 200 ≤ 400 * 200:=Nat.mul_le_mul_right _ (by omega)
 unfold idsL
 omega
theorem vertsL_len (L : List PatV) {n : Nat} (hl : L.length = n) (hn : n ≤ 400) (h200 : ∀ p ∈ L,p.2.2.length ≤ 200) : (Qcz L).length ≤ 80000:=by
 unfold Qcz
 rw [List.length_map]
 exact idsL_len L hl hn h200
theorem edgesL_len (L : List PatV) {n : Nat} (hl : L.length = n) (hn : n ≤ 400) (h200 : ∀ p ∈ L,p.2.2.length ≤ 200) : (Qd4 L).length ≤ 80000:=by
 have h1:=Qej (key:=keyE) (Qbc L)
 have h2:=Qhr L h200
 have h3 : L.length * 200 ≤ 400 * 200:=Nat.mul_le_mul_right _ (by omega)
 unfold Qd4
 omega
theorem vertD_fileV (L : List PatV) (v : VidV) : (Qb1 L v).2.2.1 = Qb6 L v:=vertD_file L v
set_option maxRecDepth 100000 in
set_option maxHeartbeats 8000000 in
theorem rverts20_any (L : List PatV) (w : World) (A : Option Addr) (n c : Nat) (h : PatsAt w A n L) (hn : n ≤ 400) (h200 : ∀ p ∈ L,p.2.2.length ≤ 200) :
  Calls Tryz.prog 29 #[.agg #[.slice A n c]] w (OwnedRet w 56 9 (Qcz L).length ((Qcz L).flatMap encX)):=by
 have KG : Hid (Blk (w.alloc (.cells #[.slice A n c] 33)) w.heap.size 33 #[.slice A n c]):=Blk.new _ _ _
 have B0 : Hid (Below w.heap.size w (w.alloc (.cells #[.slice A n c] 33))):=Qaf _ _
 have PT:=lH (h.ext B0.out)
 have hil:=idsL_len L h.len hn h200
 have hnm : Hid (n ≤ maxLen):=by rw [Hid]; unfold maxLen; omega
 have HI:=lH (rids20_any L (w.alloc (.cells #[.slice A n c] 33)) A n c PT.out hn h200)
 have hcV : ∀ args u,(callFunc 58 args).run Tryz.prog u = .ok (.enter 58 args) u:=enters_of Tryz.func58 (by kernel_rfl) rfl
 clear h h200
 have E : Hid (Qcz L = (idsL L).map (Qb1 L)):=rfl
 go_enter Tryz.func29,Tryz.ntmps29
 go_upto_region 1 with fail
 generalize (w.alloc (.cells #[.slice A n c] 33)) = w2 at *
 obtain ⟨gg,hgg⟩ : ∃ g,g = w.heap.size:=⟨_,rfl⟩
 rw [← hgg] at KG ⊢
 replace hgg:=lH hgg
 generalize idsL L = l at *
 obtain ⟨m,hm⟩ : ∃ m,m = l.length:=⟨_,rfl⟩
 rw [← hm] at HI hil
 replace hm:=lH hm
 go_wp2_with (refine wpList_load_row rfl 33 _ (by rfl) gg (by rfl) _ _ _ _ KG.out Qbx rfl Qa9 ?_)
 refine HI.out.mono ?_
 rintro e w3 ⟨v3,rfl,o3,b3⟩
 obtain ⟨Al,cl,rfl,_,s3⟩:=Sl.of_own o3
 have VA : Hid (VidsAt w3 Al m l):=⟨hm.out.symm,s3⟩
 have B3:=lH (B0.out.trans (b3.mono B0.out.size))
 have KG3:=lH (KG.out.ext b3)
 have PT3:=lH (PT.out.ext b3)
 have hw3 : Hid (w.heap.size ≤ w3.heap.size):=B3.out.size
 have BS:=lH (Below.refl w3.heap.size w3)
 clear o3 s3 b3 HI KG PT B0
 go_wp2_with fail
 go_loopw [5,3] (fun i v wr => ∃ k : Nat,k ≤ m ∧ i = .int .i64 k ∧ Hid (wr.ownsRow w3.heap.size 56 9 v ((l.take k).map (Qb1 L)).length (((l.take k).map (Qb1 L)).flatMap encX)) ∧ Hid (Below w3.heap.size w3 wr)) (fun i _ _ => m - (intOf i).toNat)
 case atStart => exact ⟨0,by omega,rfl,World.ownsRow_nil _ _ _ _,BS.out⟩
 case round =>
  clear BS
  obtain ⟨k,hk,rfl,OW,B⟩:=hrel
  obtain ⟨wi,rfl⟩ : ∃ wx,wx = wr:=⟨_,rfl⟩
  have hk0 : (0 : Int) ≤ (k : Int):=by omega
  by_cases hlt : k < m
  ·have hlk : (k : Int) < (m : Int):=by omega
   obtain ⟨b,o,v,rfl,hb,hv,R⟩:=(VA.out.ext B.out).at_ hlt
   have N : Hid ((l.take (k + 1)).map (Qb1 L) = (l.take k).map (Qb1 L) ++ [Qb1 L v]):=by rw [Hid,Qgp hv,List.map_append]; rfl
   have hlen : Hid (((l.take k).map (Qb1 L)).length ≤ 80000):=by rw [Hid,List.length_map,List.length_take]; omega
   have RV:=lH R
   have hbl:=lH hb
   have KGi:=lH (KG3.out.ext B.out)
   have HV:=lH (fun (u : World) (hu : Below wi.heap.size wi u) => Qe2 L u A n c hnm.out ((PT3.out.ext B.out).ext hu) v)
   have HIX:=lH (fun u => indexV20 b o m cl k hlt u)
   clear hv R hb
   generalize Qb1 L v = x at *
   generalize (Qbo L v).isSome = ok at *
   go_upto_region 6 with fail
   go_cut [6] (fun pv wx => ∃ gn,pv = .pointer (some ⟨gn,0,none⟩) ∧ Blk wx gn 56 (encX x).toArray ∧ Below wi.heap.size wi wx)
   case first =>
    refine wp_region_held (S:=fun w' => Below wi.heap.size wi w') Qav ?_
    change wpAnyH _ _ _ _ _ _ _ _ wi.drew
    have B5 : Hid (Below wi.heap.size wi wi.drew):=(Below.refl _ _).drew
    generalize wi.drew = w5 at B5 ⊢
    simp only [List.size_toArray,List.length_cons,List.length_nil]
    refine Qai 0 17 (.agg #[.slice A n c]) rfl (fun w' h => Qb3 rfl (Qau (cs:=[.slice A n c]) (KGi.out.ext h)) Qbx rfl Qa9) B5.out ?_
    simp only [Act.put,sqA,sq0,sqS]
    refine Qai 1 18 (.slice (some ⟨b,o,none⟩) m cl) rfl (fun _ _ => Qax (v:=.slice (some ⟨b,o,none⟩) m cl) rfl) B5.out ?_
    simp only [Act.put,sqA,sq0,sqS]
    refine Qai 2 19 (.int .i64 ((k : Nat) : Int)) rfl (fun _ _ => Qax (v:=.int .i64 ((k : Nat) : Int)) rfl) B5.out ?_
    simp only [Act.put,sqA,sq0,sqS]
    refine Qai 3 20 (.pointer (some ⟨b,o + k * 3,none⟩)) rfl (fun w' _ => Qc3 rfl rfl (HIX.out w')) B5.out ?_
    simp only [Act.put,sqA,sq0,sqS]
    refine Qai 4 21 (.agg (encV v).toArray) rfl (fun w' h => Qb3 rfl (Qac RV.out h hbl.out) Qaj rfl Qal) B5.out ?_
    simp only [Act.put,sqA,sq0,sqS]
    refine wpAnyH_all (rs:=[5,9]) (by kernel_rfl) (by simp) ?_
    intro i hi
    simp only [List.mem_cons,List.not_mem_nil,or_false] at hi
    rcases hi with rfl | rfl
    ·refine Qae rfl rfl (Qao (args:=#[.agg #[.slice A n c],.agg (encV v).toArray]) hcV (by simp only [sqM,sqC,sqN]; rfl) (HV.out w5 B5.out) ?_)
     rintro e w_1 ⟨rfl,h_2⟩
     refine ⟨_,rfl,Qaa B5.out h_2, ?_⟩
     simp only [Act.put,sqA,sq0,sqS]
     have B_3:=lH (Qaa B5.out h_2)
     clear B5
     clear h_2
     refine Qai 6 16 (.tuple #[.agg (encX x).toArray,.bool ok]) rfl (fun _ _ => Qax (v:=.tuple #[.agg (encX x).toArray,.bool ok]) rfl) B_3.out ?_
     simp only [Act.put,sqA,sq0,sqS]
     refine Qai 7 23 (.agg (encX x).toArray) rfl (fun _ _ => Qa3 (v:=.agg (encX x).toArray) rfl rfl) B_3.out ?_
     simp only [Act.put,sqA,sq0,sqS]
     refine Qai 8 24 (.bool ok) rfl (fun _ _ => Qa3 (v:=.bool ok) rfl rfl) B_3.out ?_
     simp only [Act.put,sqA,sq0,sqS]
     refine oneH 9 ?_
     refine Qae rfl rfl (Qaz (Qbu _) ?_)
     refine ⟨Qaa B_3.out (Qaf _ _), ?_⟩
     simp only [Act.put,sqA,sq0,sqS]
     have K_4 : Hid (Blk (w_1.alloc (.cells Qa8 56)) w_1.heap.size 56 Qa8):=Blk.new _ _ _
     have h_5 : Below w_1.heap.size w_1 (w_1.alloc (.cells Qa8 56)):=Qaf _ _
     have gz_7 : Hid (wi.heap.size ≤ w_1.heap.size):=B_3.out.size
     generalize (w_1.alloc (.cells Qa8 56)) = w_6 at *
     have B_9:=lH (Qaa B_3.out h_5)
     clear B_3
     clear h_5
     generalize w_1.heap.size = g_8 at *
     refine oneH 10 ?_
     refine Qae rfl rfl (Qay (cs:=(encX x).toArray) rfl rfl K_4.out Qas rfl (Qbj x) ?_)
     refine ⟨Qad B_9.out gz_7.out _, ?_⟩
     have K_10:=lH (K_4.out.row (encX x).toArray)
     have B_11:=lH (Qad B_9.out gz_7.out (encX x).toArray)
     clear B_9 K_4
     refine Qai 11 7 (.bool ok) rfl (fun _ _ => Qby (v:=.bool ok) rfl) B_11.out ?_
     simp only [Act.put,sqA,sq0,sqS]
     refine wpAnyH_done (by kernel_rfl) ?_ _
     go_wp2_with fail
     go_meet
     case rel => exact ⟨_,rfl,K_10.out,B_11.out⟩
    ·refine Qae rfl rfl (Qaz (Qbu _) ?_)
     refine ⟨Qaa B5.out (Qaf _ _), ?_⟩
     simp only [Act.put,sqA,sq0,sqS]
     have K_13 : Hid (Blk (w5.alloc (.cells Qa8 56)) w5.heap.size 56 Qa8):=Blk.new _ _ _
     have h_14 : Below w5.heap.size w5 (w5.alloc (.cells Qa8 56)):=Qaf _ _
     have gz_16 : Hid (wi.heap.size ≤ w5.heap.size):=B5.out.size
     generalize (w5.alloc (.cells Qa8 56)) = w_15 at *
     have B_18:=lH (Qaa B5.out h_14)
     clear B5
     clear h_14
     generalize w5.heap.size = g_17 at *
     refine oneH 5 ?_
     refine Qae rfl rfl (Qao (args:=#[.agg #[.slice A n c],.agg (encV v).toArray]) hcV (by simp only [sqM,sqC,sqN]; rfl) (HV.out w_15 B_18.out) ?_)
     rintro e w_19 ⟨rfl,h_20⟩
     refine ⟨_,rfl,Qaa B_18.out h_20, ?_⟩
     simp only [Act.put,sqA,sq0,sqS]
     have B_21:=lH (Qaa B_18.out h_20)
     have F_22:=lH (K_13.out.ext h_20)
     clear B_18 K_13
     clear h_20
     refine Qai 6 16 (.tuple #[.agg (encX x).toArray,.bool ok]) rfl (fun _ _ => Qax (v:=.tuple #[.agg (encX x).toArray,.bool ok]) rfl) B_21.out ?_
     simp only [Act.put,sqA,sq0,sqS]
     refine Qai 7 23 (.agg (encX x).toArray) rfl (fun _ _ => Qa3 (v:=.agg (encX x).toArray) rfl rfl) B_21.out ?_
     simp only [Act.put,sqA,sq0,sqS]
     refine Qai 8 24 (.bool ok) rfl (fun _ _ => Qa3 (v:=.bool ok) rfl rfl) B_21.out ?_
     simp only [Act.put,sqA,sq0,sqS]
     refine oneH 10 ?_
     refine Qae rfl rfl (Qay (cs:=(encX x).toArray) rfl rfl F_22.out Qas rfl (Qbj x) ?_)
     refine ⟨Qad B_21.out gz_16.out _, ?_⟩
     have K_23:=lH (F_22.out.row (encX x).toArray)
     have B_24:=lH (Qad B_21.out gz_16.out (encX x).toArray)
     clear B_21 F_22
     refine Qai 11 7 (.bool ok) rfl (fun _ _ => Qby (v:=.bool ok) rfl) B_24.out ?_
     simp only [Act.put,sqA,sq0,sqS]
     refine wpAnyH_done (by kernel_rfl) ?_ _
     go_wp2_with fail
     go_meet
     case rel => exact ⟨_,rfl,K_23.out,B_24.out⟩
   case rest =>
    obtain ⟨gn,rfl,kn,bx⟩:=hcut
    obtain ⟨wx,rfl⟩ : ∃ wx,wx = wc:=⟨_,rfl⟩
    have KN:=lH kn
    have OX:=lH (Qap OW.out bx)
    have BX:=lH (B.out.trans (bx.mono B.out.size))
    have hbs:=BX.out.size
    have hl2:=hlen.out
    clear kn bx OW B HV HIX RV KGi
    go_wp2_with (first
     | (refine wpList_load_row rfl 56 _ (by rfl) gn (by rfl) _ _ _ _ KN.out Qa2 rfl Qas ?_)
     | (refine Qa0 vertSl (Qer x) (by omega) (by rfl) ?_)
     | (at_builtin; refine Qa5 vertSl OX.out (encX x) rfl (encX_one x) hbs (by omega) (by unfold maxLen; omega) (by rfl) (by rfl) (by rfl) ?_; intro vn w9 own1 bel1))
    have O9 : Hid (w9.ownsRow w3.heap.size 56 9 vn ((l.take (k + 1)).map (Qb1 L)).length (((l.take (k + 1)).map (Qb1 L)).flatMap encX)):=by
     rw [Hid,N.out,List.length_append,flat_snocX20]; exact own1
    have B9:=lH (BX.out.trans bel1)
    clear own1 bel1 OX BX
    go_roundw
    case rel => exact ⟨k + 1,by omega,by go_num,O9.out,B9.out⟩
    case measure => simp [intOf]; omega
  ·have hlk : ¬ (k : Int) < (m : Int):=by omega
   rw [List.take_of_length_le (by rw [← hm.out]; omega),← E.out] at OW
   have BF:=lH (B3.out.trans (B.out.mono B3.out.size))
   obtain ⟨A9,c9,rfl,_,_⟩:=Sl.of_own OW.out
   go_wp2_with fail
   go_ret
   exact ⟨_,rfl,Qbk OW.out hw3.out,BF.out⟩
set_option maxRecDepth 100000 in
set_option maxHeartbeats 4000000 in
theorem rfiles20_any (L : List PatV) (w : World) (A : Option Addr) (n c : Nat) (h : PatsAt w A n L) (hn : n ≤ 400) (h200 : ∀ p ∈ L,p.2.2.length ≤ 200) :
  Calls Tryz.prog 8 #[.agg #[.slice A n c]] w (OwnedRet w 27 3 (filesL L).length ((filesL L).flatMap encV)):=by
 have KG : Hid (Blk (w.alloc (.cells #[.slice A n c] 33)) w.heap.size 33 #[.slice A n c]):=Blk.new _ _ _
 have B0 : Hid (Below w.heap.size w (w.alloc (.cells #[.slice A n c] 33))):=Qaf _ _
 have hil:=vertsL_len L h.len hn h200
 have HI:=lH (rverts20_any L (w.alloc (.cells #[.slice A n c] 33)) A n c (h.ext B0.out) hn h200)
 clear h h200
 have E : Hid (filesL L = ((Qcz L).filter fun x => decide (x.2.1.val = 1)).map (·.1)):=rfl
 go_enter Tryz.func8,Tryz.ntmps8
 go_upto_region 1 with fail
 generalize (w.alloc (.cells #[.slice A n c] 33)) = w2 at *
 obtain ⟨gg,hgg⟩ : ∃ g,g = w.heap.size:=⟨_,rfl⟩
 rw [← hgg] at KG ⊢
 replace hgg:=lH hgg
 generalize Qcz L = l at *
 obtain ⟨m,hm⟩ : ∃ m,m = l.length:=⟨_,rfl⟩
 rw [← hm] at HI hil
 replace hm:=lH hm
 go_wp2_with (refine wpList_load_row rfl 33 _ (by rfl) gg (by rfl) _ _ _ _ KG.out Qbx rfl Qa9 ?_)
 refine HI.out.mono ?_
 rintro e w3 ⟨v3,rfl,o3,b3⟩
 obtain ⟨Al,cl,rfl,_,s3⟩:=Sl.of_own o3
 have VA : Hid (VertsAt w3 Al m l):=⟨hm.out.symm,s3⟩
 have B3:=lH (B0.out.trans (b3.mono B0.out.size))
 have hw3 : Hid (w.heap.size ≤ w3.heap.size):=B3.out.size
 have BS:=lH (Below.refl w3.heap.size w3)
 clear o3 s3 b3 HI KG B0
 go_wp2_with fail
 go_loopw [5,3] (fun i v wr => ∃ k : Nat,k ≤ m ∧ i = .int .i64 k ∧ Hid (wr.ownsRow w3.heap.size 27 3 v (((l.take k).filter fun x => decide (x.2.1.val = 1)).map (·.1)).length ((((l.take k).filter fun x => decide (x.2.1.val = 1)).map (·.1)).flatMap encV)) ∧ Hid (Below w3.heap.size w3 wr)) (fun i _ _ => m - (intOf i).toNat)
 case atStart => exact ⟨0,by omega,rfl,World.ownsRow_nil _ _ _ _,BS.out⟩
 case round =>
  clear BS
  obtain ⟨k,hk,rfl,OW,B⟩:=hrel
  obtain ⟨wi,rfl⟩ : ∃ wx,wx = wr:=⟨_,rfl⟩
  have hk0 : (0 : Int) ≤ (k : Int):=by omega
  have hbs:=B.out.size
  by_cases hlt : k < m
  ·have hlk : (k : Int) < (m : Int):=by omega
   obtain ⟨b,o,x,rfl,hb,hx,R⟩:=(VA.out.ext B.out).at_ hlt
   have hlen:=filt_le (fun x : Qa4 => decide (x.2.1.val = 1)) l k (m:=80000) (by rw [← hm.out]; omega)
   have yk : wi.cell? ⟨b,o + k * 9 + 3,none⟩ = some (.int .u8 ((x.2.1.val : Nat) : Int)):=x_kind20 R
   have RV:=lH (x_vid20 R)
   clear R hb
   by_cases h1 : x.2.1.val = 1
   ·have z1 : (((x.2.1.val : Nat) : Int) == 1) = true:=by rw [beq_iff_eq]; omega
    have N : Hid (((l.take (k + 1)).filter fun x => decide (x.2.1.val = 1)).map (·.1) = ((l.take k).filter fun x => decide (x.2.1.val = 1)).map (·.1) ++ [x.1]):=by rw [Hid,filt_t hx (dqT h1),List.map_append]; rfl
    replace h1:=lH h1
    clear hx
    have hl2 : (((l.take k).filter fun x => decide (x.2.1.val = 1)).map (·.1)).length ≤ 80000:=by rw [List.length_map]; exact hlen
    clear hlen
    generalize ((l.take k).filter fun x => decide (x.2.1.val = 1)).map (·.1) = fl at *
    go_wp2_with (first
     | (refine wpList_load_mid rfl 27 _ (by rfl) b (o + k * 9) (by rfl) _ _ RV.out Qaj rfl Qal ?_)
     | (refine Qa0 Qfq (Qdk x.1) (by omega) (by rfl) ?_)
     | (at_builtin; refine Qa5 Qfq OW.out (encV x.1) rfl (Qc9 x.1) hbs (by omega) (by unfold maxLen; omega) (by rfl) (by rfl) (by rfl) ?_; intro vn w9 own1 bel1))
    have O9 : Hid (w9.ownsRow w3.heap.size 27 3 vn (((l.take (k + 1)).filter fun x => decide (x.2.1.val = 1)).map (·.1)).length ((((l.take (k + 1)).filter fun x => decide (x.2.1.val = 1)).map (·.1)).flatMap encV)):=by
     rw [Hid,N.out,List.length_append,flat_snocV20]; exact own1
    have B9:=lH (B.out.trans bel1)
    clear own1 bel1 OW B N
    go_roundw
    case rel => exact ⟨k + 1,by omega,by go_num,O9.out,B9.out⟩
    case measure => simp [intOf]; omega
   ·have z1 : (((x.2.1.val : Nat) : Int) == 1) = false:=by rw [beq_eq_false_iff_ne]; omega
    have N : Hid ((l.take (k + 1)).filter (fun x => decide (x.2.1.val = 1)) = (l.take k).filter fun x => decide (x.2.1.val = 1)):=filt_f hx (dqF h1)
    replace h1:=lH h1
    rw [← N.out] at OW
    clear hx hlen
    go_wp2_with fail
    go_roundw
    case rel => exact ⟨k + 1,by omega,by go_num,OW.out,B.out⟩
    case measure => simp [intOf]; omega
  ·have hlk : ¬ (k : Int) < (m : Int):=by omega
   rw [List.take_of_length_le (by rw [← hm.out]; omega),← E.out] at OW
   have BF:=lH (B3.out.trans (B.out.mono B3.out.size))
   obtain ⟨A9,c9,rfl,_,_⟩:=Sl.of_own OW.out
   go_wp2_with fail
   go_ret
   exact ⟨_,rfl,Qbk OW.out hw3.out,BF.out⟩
end Go.Proofs.YtdafiipedlglpaaGreat

/- The document's graph: what is of a kind, a file's steps: walked. -/
namespace Go.Proofs.YtdafiipedlglpaaGreat
open Go.RowKit

set_option maxRecDepth 100000 in
set_option maxHeartbeats 4000000 in
theorem rof20_any (L : List PatV) (w : World) (A : Option Addr) (n c : Nat) (h : PatsAt w A n L) (hn : n ≤ 400) (h200 : ∀ p ∈ L,p.2.2.length ≤ 200) (v : VidV) (kd : Nat) :
  Calls Tryz.prog 38 #[.agg #[.slice A n c],.agg (encV v).toArray,.int .u8 (kd : Int)] w (OwnedRet w 56 9 (ofL L v kd).length ((ofL L v kd).flatMap encX)):=by
 have KG : Hid (Blk ((w.alloc (.cells #[.slice A n c] 33)).alloc (.cells (encV v).toArray 27)) w.heap.size 33 #[.slice A n c]):=(Blk.new _ _ _).alloc _
 have KV : Hid (Blk ((w.alloc (.cells #[.slice A n c] 33)).alloc (.cells (encV v).toArray 27)) (w.heap.size + 1) 27 (encV v).toArray):=Blk.newAt (by simp) _ _
 have B0 : Hid (Below w.heap.size w ((w.alloc (.cells #[.slice A n c] 33)).alloc (.cells (encV v).toArray 27))):=((Below.refl _ _).alloc (Nat.le_refl _) _).alloc (by simp) _
 have hil:=vertsL_len L h.len hn h200
 have HI:=lH (rverts20_any L ((w.alloc (.cells #[.slice A n c] 33)).alloc (.cells (encV v).toArray 27)) A n c (h.ext B0.out) hn h200)
 clear h h200
 have E : Hid (ofL L v kd = (Qcz L).filter fun x => decide (x.2.1.val = kd) && decide (x.2.2.1 = v)):=rfl
 go_enter Tryz.func38,Tryz.ntmps38
 go_upto_region 1 with fail
 generalize ((w.alloc (.cells #[.slice A n c] 33)).alloc (.cells (encV v).toArray 27)) = w2 at *
 obtain ⟨gv,hgv⟩ : ∃ g,g = w.heap.size + 1:=⟨_,rfl⟩
 obtain ⟨gg,hgg⟩ : ∃ g,g = w.heap.size:=⟨_,rfl⟩
 rw [← hgv] at KV ⊢
 rw [← hgg] at KG ⊢
 replace hgv:=lH hgv
 replace hgg:=lH hgg
 generalize Qcz L = l at *
 obtain ⟨m,hm⟩ : ∃ m,m = l.length:=⟨_,rfl⟩
 rw [← hm] at HI hil
 replace hm:=lH hm
 go_wp2_with (refine wpList_load_row rfl 33 _ (by rfl) gg (by rfl) _ _ _ _ KG.out Qbx rfl Qa9 ?_)
 refine HI.out.mono ?_
 rintro e w3 ⟨v3,rfl,o3,b3⟩
 obtain ⟨Al,cl,rfl,_,s3⟩:=Sl.of_own o3
 have VA : Hid (VertsAt w3 Al m l):=⟨hm.out.symm,s3⟩
 have B3:=lH (B0.out.trans (b3.mono B0.out.size))
 have KV3:=lH (KV.out.ext b3)
 have hw3 : Hid (w.heap.size ≤ w3.heap.size):=B3.out.size
 have BS:=lH (Below.refl w3.heap.size w3)
 clear o3 s3 b3 HI KG KV B0
 go_wp2_with fail
 go_loopw [9,7] (fun i u wr => ∃ k : Nat,k ≤ m ∧ i = .int .i64 k ∧ Hid (wr.ownsRow w3.heap.size 56 9 u ((l.take k).filter fun x => decide (x.2.1.val = kd) && decide (x.2.2.1 = v)).length (((l.take k).filter fun x => decide (x.2.1.val = kd) && decide (x.2.2.1 = v)).flatMap encX)) ∧ Hid (Below w3.heap.size w3 wr)) (fun i _ _ => m - (intOf i).toNat)
 case atStart => exact ⟨0,by omega,rfl,World.ownsRow_nil _ _ _ _,BS.out⟩
 case round =>
  clear BS
  obtain ⟨k,hk,rfl,OW,B⟩:=hrel
  obtain ⟨wi,rfl⟩ : ∃ wx,wx = wr:=⟨_,rfl⟩
  have hk0 : (0 : Int) ≤ (k : Int):=by omega
  have hbs:=B.out.size
  by_cases hlt : k < m
  ·have hlk : (k : Int) < (m : Int):=by omega
   obtain ⟨b,o,x,rfl,hb,hx,R⟩:=(VA.out.ext B.out).at_ hlt
   have hl2:=filt_le (fun x : Qa4 => decide (x.2.1.val = kd) && decide (x.2.2.1 = v)) l k (m:=80000) (by rw [← hm.out]; omega)
   have yk : wi.cell? ⟨b,o + k * 9 + 3,none⟩ = some (.int .u8 ((x.2.1.val : Nat) : Int)):=x_kind20 R
   have RF:=lH (x_file20 R)
   have RX:=lH R
   have RV:=lH (Qau (KV3.out.ext B.out))
   clear R hb
   go_upto_region 6 with fail
   by_cases h1 : x.2.1.val = kd
   ·have z1 : (((x.2.1.val : Nat) : Int) == (kd : Int)) = true:=by rw [beq_iff_eq]; omega
    by_cases h2 : x.2.2.1 = v
    ·have EQ : ∀ u : World,(binOp .eql 27 (.agg (encV x.2.2.1).toArray) (.agg (encV v).toArray)).run Tryz.prog u = .ok (.bool true) u:=fun u => by rw [eqlV,dqT h2]
     have N : Hid ((l.take (k + 1)).filter (fun x => decide (x.2.1.val = kd) && decide (x.2.2.1 = v)) = ((l.take k).filter fun x => decide (x.2.1.val = kd) && decide (x.2.2.1 = v)) ++ [x]):=filt_t hx (by rw [dqT h1,dqT h2]; rfl)
     replace h1:=lH h1
     replace h2:=lH h2
     clear hx
     generalize (l.take k).filter (fun x => decide (x.2.1.val = kd) && decide (x.2.2.1 = v)) = fl at *
     refine wp_region_quiet_lit (by kernel_rfl) (by kernel_rfl) ?_
     repeat (first
      | go_big_quiet_skip
      | (refine Qab (Qb2 RF.out) Qaj rfl Qal rfl rfl ?_; simp only [sqS,sq0])
      | (refine Qab (Qb2 RV.out) Qaj rfl Qal rfl rfl ?_; simp only [sqS,sq0])
      | go_big_quiet_step (fail))
     refine wpQuiet_nil ?_
     rintro _ ⟨nq,rfl⟩
     clear EQ yk z1 RF RV
     go_wp2_with (first
      | (refine wpList_load_mid rfl 56 _ (by rfl) b (o + k * 9) (by rfl) _ _ (Qb2 RX.out _ ⟨nq,rfl⟩) Qa2 rfl Qas ?_)
      | (refine Qa0 vertSl (Qer x) (by omega) (by rfl) ?_)
      | (at_builtin; refine Qa5 vertSl (Qap OW.out (Qat (Below.refl _ _) nq)) (encX x) rfl (encX_one x) hbs (by omega) (by unfold maxLen; omega) (by rfl) (by rfl) (by rfl) ?_; intro vn w9 own1 bel1))
     have O9 : Hid (w9.ownsRow w3.heap.size 56 9 vn ((l.take (k + 1)).filter fun x => decide (x.2.1.val = kd) && decide (x.2.2.1 = v)).length (((l.take (k + 1)).filter fun x => decide (x.2.1.val = kd) && decide (x.2.2.1 = v)).flatMap encX)):=by
      rw [Hid,N.out,List.length_append,flat_snocX20]; exact own1
     have B9:=lH ((Qat B.out nq).trans bel1)
     clear own1 bel1 OW B N
     go_roundw
     case rel => exact ⟨k + 1,by omega,by go_num,O9.out,B9.out⟩
     case measure => simp [intOf]; omega
    ·have EQ : ∀ u : World,(binOp .eql 27 (.agg (encV x.2.2.1).toArray) (.agg (encV v).toArray)).run Tryz.prog u = .ok (.bool false) u:=fun u => by rw [eqlV,dqF h2]
     have N : Hid ((l.take (k + 1)).filter (fun x => decide (x.2.1.val = kd) && decide (x.2.2.1 = v)) = (l.take k).filter fun x => decide (x.2.1.val = kd) && decide (x.2.2.1 = v)):=filt_f hx (by rw [dqF h2,Bool.and_false])
     rw [← N.out] at OW
     replace h1:=lH h1
     replace h2:=lH h2
     clear hx hl2 RX
     refine wp_region_quiet_lit (by kernel_rfl) (by kernel_rfl) ?_
     repeat (first
      | go_big_quiet_skip
      | (refine Qab (Qb2 RF.out) Qaj rfl Qal rfl rfl ?_; simp only [sqS,sq0])
      | (refine Qab (Qb2 RV.out) Qaj rfl Qal rfl rfl ?_; simp only [sqS,sq0])
      | go_big_quiet_step (fail))
     refine wpQuiet_nil ?_
     rintro _ ⟨nq,rfl⟩
     clear EQ yk z1 RF RV
     go_wp2_with fail
     go_roundw
     case rel => exact ⟨k + 1,by omega,by go_num,Qap OW.out (Qat (Below.refl _ _) nq),Qat B.out nq⟩
     case measure => simp [intOf]; omega
   ·have z1 : (((x.2.1.val : Nat) : Int) == (kd : Int)) = false:=by rw [beq_eq_false_iff_ne]; omega
    have N : Hid ((l.take (k + 1)).filter (fun x => decide (x.2.1.val = kd) && decide (x.2.2.1 = v)) = (l.take k).filter fun x => decide (x.2.1.val = kd) && decide (x.2.2.1 = v)):=filt_f hx (by rw [dqF h1,Bool.false_and])
    rw [← N.out] at OW
    replace h1:=lH h1
    clear hx hl2 RX
    refine wp_region_quiet_lit (by kernel_rfl) (by kernel_rfl) ?_
    repeat (first
     | go_big_quiet_skip
     | (refine Qab (Qb2 RF.out) Qaj rfl Qal rfl rfl ?_; simp only [sqS,sq0])
     | (refine Qab (Qb2 RV.out) Qaj rfl Qal rfl rfl ?_; simp only [sqS,sq0])
     | go_big_quiet_step (fail))
    refine wpQuiet_nil ?_
    rintro _ ⟨nq,rfl⟩
    clear yk z1 RF RV
    go_wp2_with fail
    go_roundw
    case rel => exact ⟨k + 1,by omega,by go_num,Qap OW.out (Qat (Below.refl _ _) nq),Qat B.out nq⟩
    case measure => simp [intOf]; omega
  ·have hlk : ¬ (k : Int) < (m : Int):=by omega
   rw [List.take_of_length_le (by rw [← hm.out]; omega),← E.out] at OW
   have BF:=lH (B3.out.trans (B.out.mono B3.out.size))
   obtain ⟨A9,c9,rfl,_,_⟩:=Sl.of_own OW.out
   go_wp2_with fail
   go_ret
   exact ⟨_,rfl,Qbk OW.out hw3.out,BF.out⟩
set_option maxRecDepth 100000 in
set_option maxHeartbeats 8000000 in
theorem rsteps20_any (L : List PatV) (w : World) (A : Option Addr) (n c : Nat) (h : PatsAt w A n L) (hn : n ≤ 400) (h200 : ∀ p ∈ L,p.2.2.length ≤ 200) (v : VidV) :
  Calls Tryz.prog 39 #[.agg #[.slice A n c],.agg (encV v).toArray] w (OwnedRet w 88 6 (Qef L v).length ((Qef L v).flatMap encE)):=by
 have KG : Hid (Blk ((w.alloc (.cells #[.slice A n c] 33)).alloc (.cells (encV v).toArray 27)) w.heap.size 33 #[.slice A n c]):=(Blk.new _ _ _).alloc _
 have KV : Hid (Blk ((w.alloc (.cells #[.slice A n c] 33)).alloc (.cells (encV v).toArray 27)) (w.heap.size + 1) 27 (encV v).toArray):=Blk.newAt (by simp) _ _
 have B0 : Hid (Below w.heap.size w ((w.alloc (.cells #[.slice A n c] 33)).alloc (.cells (encV v).toArray 27))):=((Below.refl _ _).alloc (Nat.le_refl _) _).alloc (by simp) _
 have PT:=lH (h.ext B0.out)
 have hil:=edgesL_len L h.len hn h200
 have hnm : Hid (n ≤ maxLen):=by rw [Hid]; unfold maxLen; omega
 have HI:=lH (redges20_any L ((w.alloc (.cells #[.slice A n c] 33)).alloc (.cells (encV v).toArray 27)) A n c PT.out hn h200)
 have hcV : ∀ args u,(callFunc 58 args).run Tryz.prog u = .ok (.enter 58 args) u:=enters_of Tryz.func58 (by kernel_rfl) rfl
 clear h h200
 have E : Hid (Qef L v = (Qd4 L).filter fun e => decide (Qb6 L e.1 = v)):=rfl
 go_enter Tryz.func39,Tryz.ntmps39
 go_upto_region 1 with fail
 generalize ((w.alloc (.cells #[.slice A n c] 33)).alloc (.cells (encV v).toArray 27)) = w2 at *
 obtain ⟨gv,hgv⟩ : ∃ g,g = w.heap.size + 1:=⟨_,rfl⟩
 obtain ⟨gg,hgg⟩ : ∃ g,g = w.heap.size:=⟨_,rfl⟩
 rw [← hgv] at KV ⊢
 rw [← hgg] at KG ⊢
 replace hgv:=lH hgv
 replace hgg:=lH hgg
 generalize Qd4 L = l at *
 obtain ⟨m,hm⟩ : ∃ m,m = l.length:=⟨_,rfl⟩
 rw [← hm] at HI hil
 replace hm:=lH hm
 go_wp2_with (refine wpList_load_row rfl 33 _ (by rfl) gg (by rfl) _ _ _ _ KG.out Qbx rfl Qa9 ?_)
 refine HI.out.mono ?_
 rintro e w3 ⟨v3,rfl,o3,b3⟩
 obtain ⟨Al,cl,rfl,_,s3⟩:=Sl.of_own o3
 have VA : Hid (EdgesAt w3 Al m l):=⟨hm.out.symm,s3⟩
 have B3:=lH (B0.out.trans (b3.mono B0.out.size))
 have KG3:=lH (KG.out.ext b3)
 have KV3:=lH (KV.out.ext b3)
 have PT3:=lH (PT.out.ext b3)
 have hw3 : Hid (w.heap.size ≤ w3.heap.size):=B3.out.size
 have BS:=lH (Below.refl w3.heap.size w3)
 clear o3 s3 b3 HI KG KV PT B0
 go_wp2_with fail
 go_loopw [7,5] (fun i u wr => ∃ k : Nat,k ≤ m ∧ i = .int .i64 k ∧ Hid (wr.ownsRow w3.heap.size 88 6 u ((l.take k).filter fun e => decide (Qb6 L e.1 = v)).length (((l.take k).filter fun e => decide (Qb6 L e.1 = v)).flatMap encE)) ∧ Hid (Below w3.heap.size w3 wr)) (fun i _ _ => m - (intOf i).toNat)
 case atStart => exact ⟨0,by omega,rfl,World.ownsRow_nil _ _ _ _,BS.out⟩
 case round =>
  clear BS
  obtain ⟨k,hk,rfl,OW,B⟩:=hrel
  obtain ⟨wi,rfl⟩ : ∃ wx,wx = wr:=⟨_,rfl⟩
  have hk0 : (0 : Int) ≤ (k : Int):=by omega
  by_cases hlt : k < m
  ·have hlk : (k : Int) < (m : Int):=by omega
   obtain ⟨b,o,y,rfl,hb,hy,R⟩:=(VA.out.ext B.out).at_ hlt
   have hlen:=lH (filt_le (fun e : Qbv => decide (Qb6 L e.1 = v)) l k (m:=80000) (by rw [← hm.out]; omega))
   have NT : Hid (Qb6 L y.1 = v → (l.take (k + 1)).filter (fun e => decide (Qb6 L e.1 = v)) = ((l.take k).filter fun e => decide (Qb6 L e.1 = v)) ++ [y]):=fun h => filt_t hy (dqT h)
   have NF : Hid (¬ Qb6 L y.1 = v → (l.take (k + 1)).filter (fun e => decide (Qb6 L e.1 = v)) = (l.take k).filter fun e => decide (Qb6 L e.1 = v)):=fun h => filt_f hy (dqF h)
   have RV:=lH (e_fst R)
   have RY:=lH R
   have hbl:=lH hb
   have KGi:=lH (KG3.out.ext B.out)
   have HV:=lH (fun (u : World) (hu : Below wi.heap.size wi u) => Qe2 L u A n c hnm.out ((PT3.out.ext B.out).ext hu) y.1)
   have HIX:=lH (fun u => indexE20 b o m cl k hlt u)
   have HF:=lH (vertD_fileV L y.1)
   clear hy R hb
   generalize Qb1 L y.1 = x at *
   generalize (Qbo L y.1).isSome = ok at *
   go_upto_region 6 with fail
   go_cut [8] (fun pv wx => ∃ gn,pv = .pointer (some ⟨gn,0,none⟩) ∧ Blk wx gn 56 (encX x).toArray ∧ Below wi.heap.size wi wx)
   case first =>
    refine wp_region_held (S:=fun w' => Below wi.heap.size wi w') Qav ?_
    change wpAnyH _ _ _ _ _ _ _ _ wi.drew
    have B5 : Hid (Below wi.heap.size wi wi.drew):=(Below.refl _ _).drew
    generalize wi.drew = w5 at B5 ⊢
    simp only [List.size_toArray,List.length_cons,List.length_nil]
    refine Qai 0 19 (.agg #[.slice A n c]) rfl (fun w' h => Qb3 rfl (Qau (cs:=[.slice A n c]) (KGi.out.ext h)) Qbx rfl Qa9) B5.out ?_
    simp only [Act.put,sqA,sq0,sqS]
    refine Qai 1 20 (.slice (some ⟨b,o,none⟩) m cl) rfl (fun _ _ => Qax (v:=.slice (some ⟨b,o,none⟩) m cl) rfl) B5.out ?_
    simp only [Act.put,sqA,sq0,sqS]
    refine Qai 2 21 (.int .i64 ((k : Nat) : Int)) rfl (fun _ _ => Qax (v:=.int .i64 ((k : Nat) : Int)) rfl) B5.out ?_
    simp only [Act.put,sqA,sq0,sqS]
    refine Qai 3 22 (.pointer (some ⟨b,o + k * 6,none⟩)) rfl (fun w' _ => Qc3 rfl rfl (HIX.out w')) B5.out ?_
    simp only [Act.put,sqA,sq0,sqS]
    refine Qai 4 23 (.pointer (some ⟨b,o + k * 6,none⟩)) rfl (fun w' _ => Qc3 rfl rfl (index0E20 b (o + k * 6) w')) B5.out ?_
    simp only [Act.put,sqA,sq0,sqS]
    refine Qai 5 24 (.agg (encV y.1).toArray) rfl (fun w' h => Qb3 rfl (Qac RV.out h hbl.out) Qaj rfl Qal) B5.out ?_
    simp only [Act.put,sqA,sq0,sqS]
    refine wpAnyH_all (rs:=[6,10]) (by kernel_rfl) (by simp) ?_
    intro i hi
    simp only [List.mem_cons,List.not_mem_nil,or_false] at hi
    rcases hi with rfl | rfl
    ·refine Qae rfl rfl (Qao (args:=#[.agg #[.slice A n c],.agg (encV y.1).toArray]) hcV (by simp only [sqM,sqC,sqN]; rfl) (HV.out w5 B5.out) ?_)
     rintro e w_1 ⟨rfl,h_2⟩
     refine ⟨_,rfl,Qaa B5.out h_2, ?_⟩
     simp only [Act.put,sqA,sq0,sqS]
     have B_3:=lH (Qaa B5.out h_2)
     clear B5
     clear h_2
     refine Qai 7 18 (.tuple #[.agg (encX x).toArray,.bool ok]) rfl (fun _ _ => Qax (v:=.tuple #[.agg (encX x).toArray,.bool ok]) rfl) B_3.out ?_
     simp only [Act.put,sqA,sq0,sqS]
     refine Qai 8 26 (.agg (encX x).toArray) rfl (fun _ _ => Qa3 (v:=.agg (encX x).toArray) rfl rfl) B_3.out ?_
     simp only [Act.put,sqA,sq0,sqS]
     refine Qai 9 27 (.bool ok) rfl (fun _ _ => Qa3 (v:=.bool ok) rfl rfl) B_3.out ?_
     simp only [Act.put,sqA,sq0,sqS]
     refine oneH 10 ?_
     refine Qae rfl rfl (Qaz (Qbu _) ?_)
     refine ⟨Qaa B_3.out (Qaf _ _), ?_⟩
     simp only [Act.put,sqA,sq0,sqS]
     have K_4 : Hid (Blk (w_1.alloc (.cells Qa8 56)) w_1.heap.size 56 Qa8):=Blk.new _ _ _
     have h_5 : Below w_1.heap.size w_1 (w_1.alloc (.cells Qa8 56)):=Qaf _ _
     have gz_7 : Hid (wi.heap.size ≤ w_1.heap.size):=B_3.out.size
     generalize (w_1.alloc (.cells Qa8 56)) = w_6 at *
     have B_9:=lH (Qaa B_3.out h_5)
     clear B_3
     clear h_5
     generalize w_1.heap.size = g_8 at *
     refine oneH 11 ?_
     refine Qae rfl rfl (Qay (cs:=(encX x).toArray) rfl rfl K_4.out Qas rfl (Qbj x) ?_)
     refine ⟨Qad B_9.out gz_7.out _, ?_⟩
     have K_10:=lH (K_4.out.row (encX x).toArray)
     have B_11:=lH (Qad B_9.out gz_7.out (encX x).toArray)
     clear B_9 K_4
     refine Qai 12 9 (.bool ok) rfl (fun _ _ => Qby (v:=.bool ok) rfl) B_11.out ?_
     simp only [Act.put,sqA,sq0,sqS]
     refine wpAnyH_done (by kernel_rfl) ?_ _
     go_wp2_with fail
     go_meet
     case rel => exact ⟨_,rfl,K_10.out,B_11.out⟩
    ·refine Qae rfl rfl (Qaz (Qbu _) ?_)
     refine ⟨Qaa B5.out (Qaf _ _), ?_⟩
     simp only [Act.put,sqA,sq0,sqS]
     have K_13 : Hid (Blk (w5.alloc (.cells Qa8 56)) w5.heap.size 56 Qa8):=Blk.new _ _ _
     have h_14 : Below w5.heap.size w5 (w5.alloc (.cells Qa8 56)):=Qaf _ _
     have gz_16 : Hid (wi.heap.size ≤ w5.heap.size):=B5.out.size
     generalize (w5.alloc (.cells Qa8 56)) = w_15 at *
     have B_18:=lH (Qaa B5.out h_14)
     clear B5
     clear h_14
     generalize w5.heap.size = g_17 at *
     refine oneH 6 ?_
     refine Qae rfl rfl (Qao (args:=#[.agg #[.slice A n c],.agg (encV y.1).toArray]) hcV (by simp only [sqM,sqC,sqN]; rfl) (HV.out w_15 B_18.out) ?_)
     rintro e w_19 ⟨rfl,h_20⟩
     refine ⟨_,rfl,Qaa B_18.out h_20, ?_⟩
     simp only [Act.put,sqA,sq0,sqS]
     have B_21:=lH (Qaa B_18.out h_20)
     have F_22:=lH (K_13.out.ext h_20)
     clear B_18 K_13
     clear h_20
     refine Qai 7 18 (.tuple #[.agg (encX x).toArray,.bool ok]) rfl (fun _ _ => Qax (v:=.tuple #[.agg (encX x).toArray,.bool ok]) rfl) B_21.out ?_
     simp only [Act.put,sqA,sq0,sqS]
     refine Qai 8 26 (.agg (encX x).toArray) rfl (fun _ _ => Qa3 (v:=.agg (encX x).toArray) rfl rfl) B_21.out ?_
     simp only [Act.put,sqA,sq0,sqS]
     refine Qai 9 27 (.bool ok) rfl (fun _ _ => Qa3 (v:=.bool ok) rfl rfl) B_21.out ?_
     simp only [Act.put,sqA,sq0,sqS]
     refine oneH 11 ?_
     refine Qae rfl rfl (Qay (cs:=(encX x).toArray) rfl rfl F_22.out Qas rfl (Qbj x) ?_)
     refine ⟨Qad B_21.out gz_16.out _, ?_⟩
     have K_23:=lH (F_22.out.row (encX x).toArray)
     have B_24:=lH (Qad B_21.out gz_16.out (encX x).toArray)
     clear B_21 F_22
     refine Qai 12 9 (.bool ok) rfl (fun _ _ => Qby (v:=.bool ok) rfl) B_24.out ?_
     simp only [Act.put,sqA,sq0,sqS]
     refine wpAnyH_done (by kernel_rfl) ?_ _
     go_wp2_with fail
     go_meet
     case rel => exact ⟨_,rfl,K_23.out,B_24.out⟩
   case rest =>
    obtain ⟨gn,rfl,kn,bx⟩:=hcut
    obtain ⟨wx,rfl⟩ : ∃ wx,wx = wc:=⟨_,rfl⟩
    have RF:=lH (x_file20 (Qau kn))
    rw [Nat.zero_add] at RF
    have OX:=lH (Qap OW.out bx)
    have BX:=lH (B.out.trans (bx.mono B.out.size))
    have KVx:=lH (KV3.out.ext BX.out)
    have RYx:=lH (Qac RY.out bx hbl.out)
    have hbs:=BX.out.size
    have hl2:=hlen.out
    clear kn bx OW B HV HIX RV KGi RY
    by_cases h2 : x.2.2.1 = v
    ·have EQ : ∀ u : World,(binOp .eql 27 (.agg (encV x.2.2.1).toArray) (.agg (encV v).toArray)).run Tryz.prog u = .ok (.bool true) u:=fun u => by rw [eqlV,dqT h2]
     have N:=lH (NT.out (HF.out.symm.trans h2))
     clear NT NF h2 HF
     generalize (l.take k).filter (fun e => decide (Qb6 L e.1 = v)) = fl at *
     go_wp2_with (first
      | (refine wpList_load_mid rfl 27 _ (by rfl) gn 4 (by rfl) _ _ RF.out Qaj rfl Qal ?_)
      | (refine wpList_load_row rfl 27 _ (by rfl) gv (by rfl) _ _ _ _ KVx.out Qaj rfl Qal ?_)
      | (refine wpList_load_mid rfl 88 _ (by rfl) b (o + k * 6) (by rfl) _ _ RYx.out Qbg rfl Qbm ?_)
      | (refine Qa0 Qeh (Qda y) (by omega) (by rfl) ?_)
      | (at_builtin; refine Qa5 Qeh OX.out (encE y) rfl (Qes y) hbs (by omega) (by unfold maxLen; omega) (by rfl) (by rfl) (by rfl) ?_; intro vn w9 own1 bel1))
     have O9 : Hid (w9.ownsRow w3.heap.size 88 6 vn ((l.take (k + 1)).filter fun e => decide (Qb6 L e.1 = v)).length (((l.take (k + 1)).filter fun e => decide (Qb6 L e.1 = v)).flatMap encE)):=by
      rw [Hid,N.out,List.length_append,Qd7]; exact own1
     have B9:=lH (BX.out.trans bel1)
     clear own1 bel1 OX BX N
     go_roundw
     case rel => exact ⟨k + 1,by omega,by go_num,O9.out,B9.out⟩
     case measure => simp [intOf]; omega
    ·have EQ : ∀ u : World,(binOp .eql 27 (.agg (encV x.2.2.1).toArray) (.agg (encV v).toArray)).run Tryz.prog u = .ok (.bool false) u:=fun u => by rw [eqlV,dqF h2]
     have N:=lH (NF.out (fun e => h2 (HF.out.trans e)))
     rw [← N.out] at OX
     clear NT NF h2 HF
     go_wp2_with (first
      | (refine wpList_load_mid rfl 27 _ (by rfl) gn 4 (by rfl) _ _ RF.out Qaj rfl Qal ?_)
      | (refine wpList_load_row rfl 27 _ (by rfl) gv (by rfl) _ _ _ _ KVx.out Qaj rfl Qal ?_))
     go_roundw
     case rel => exact ⟨k + 1,by omega,by go_num,OX.out,BX.out⟩
     case measure => simp [intOf]; omega
  ·have hlk : ¬ (k : Int) < (m : Int):=by omega
   rw [List.take_of_length_le (by rw [← hm.out]; omega),← E.out] at OW
   have BF:=lH (B3.out.trans (B.out.mono B3.out.size))
   obtain ⟨A9,c9,rfl,_,_⟩:=Sl.of_own OW.out
   go_wp2_with fail
   go_ret
   exact ⟨_,rfl,Qbk OW.out hw3.out,BF.out⟩
end Go.Proofs.YtdafiipedlglpaaGreat

/- The document's graph, and the program's, of the same patches, are the same: walked. -/
namespace Go.Proofs.YtdafiipedlglpaaGreat
open Go.RowKit

end Go.Proofs.YtdafiipedlglpaaGreat
