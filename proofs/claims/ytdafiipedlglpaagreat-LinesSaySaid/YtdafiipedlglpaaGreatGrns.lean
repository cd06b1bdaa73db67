/- Texts of general use, one behind another. -/
import Derived.Test.YtdafiipedlglpaaGreatGrl
import Derived.Test.YtdafiipedlglpaaGreatGri
import Derived.Test.YtdafiipedlglpaaGreatGrh
import Derived.Test.YtdafiipedlglpaaGreatPaws
import Derived.Test.YtdafiipedlglpaaGreatLits
import Derived.Test.YtdafiipedlglpaaGreatGrm
import Derived.Test.YtdafiipedlglpaaGreatGras
import Derived.Test.YtdafiipedlglpaaGreatVrefs

/- The chapter's example of a graph: walked. -/
namespace Go.Proofs.YtdafiipedlglpaaGreat
open Go.RowKit

end Go.Proofs.YtdafiipedlglpaaGreat

/- The same patches make the same graph: the statement walked. -/
namespace Go.Proofs.YtdafiipedlglpaaGreat
open Go.RowKit

end Go.Proofs.YtdafiipedlglpaaGreat

/- What GraphWhole needs beside: comparisons, walked again; what is applied hangs together. -/
namespace Go.Proofs.YtdafiipedlglpaaGreat
open Go.RowKit

theorem neqV_anyQ (a b c d m n : Int) (w : World) : (binOp .neq 27 (.agg #[.int .u8 a,.int .u16 b,.int .u8 m]) (.agg #[.int .u8 c,.int .u16 d,.int .u8 n])).run Tryz.prog w = .ok (.bool (!(decide (a = c) && decide (b = d) && decide (m = n)))) w:=by
 simp [go_sem]
 by_cases h1 : a = c <;> by_cases h2 : b = d <;> by_cases h3 : m = n <;> simp [h1,h2,h3]
theorem neqVQ (x y : VidV) (w : World) : (binOp .neq 27 (.agg (encV x).toArray) (.agg (encV y).toArray)).run Tryz.prog w = .ok (.bool (!decide (x = y))) w:=by
 rw [← vidV_eq]; exact neqV_anyQ _ _ _ _ _ _ w
theorem veqV_iffQ (x y : VidV) : veqV (oldV x) (oldV y) = decide (x = y):=by
 unfold veqV oldV
 by_cases h : x = y
 ·subst h; simp
 ·rw [dqF h]
  simp only [Bool.and_eq_false_iff,decide_eq_false_iff_not]
  by_cases h1 : ((x.1.1.val : Nat) : Int) = ((y.1.1.val : Nat) : Int)
  ·by_cases h2 : ((x.1.2.val : Nat) : Int) = ((y.1.2.val : Nat) : Int)
   ·exact .inr fun h3 => h (Prod.ext (Prod.ext (Qec h1) (Qec h2)) (Qec h3))
   ·exact .inl (.inr h2)
  ·exact .inl (.inl h1)
theorem goodO_edge {id : PidV} {i : Int} {o : OpV} (h : Qeq id i o = true) (hk : o.1.val = 4) : o.2.1 ≠ o.2.2.1:=by
 intro he
 unfold Qeq Qeg at h
 rw [Bool.and_eq_true] at h
 have h2:=h.2
 unfold Qdv at h2
 rw [if_neg (by omega),if_neg (by omega),if_neg (by omega),if_pos (by omega),veqV_iffQ,dqT he] at h2
 simp at h2
theorem GrOk.refs {L : List PatV} (h : GrOk L) : ∀ p ∈ L,∀ o ∈ p.2.2,refB (rawV L) o = true:=by
 induction h with
 | nil => simp
 | @snoc L p hL h0 ih =>
  intro q hq o ho
  rcases List.mem_append.1 hq with hq | hq
  ·exact refB_mono (fun v r hr => Qh6 hr p) (ih q hq o ho)
  ·obtain rfl:=List.mem_singleton.1 hq
   exact (Qep h0).2.2.2.2 o ho
theorem GrOk.edge {L : List PatV} (h : GrOk L) {e : Qbv} (he : e ∈ Qd4 L) : Qdx (rawV L) e.1 3 = true ∧ Qdx (rawV L) e.2 3 = true ∧ Qb6 L e.1 = Qb6 L e.2 ∧ e.1 ≠ e.2:=by
 obtain ⟨p,hp,o,ho,h4,rfl⟩:=edgesOf_mem.1 ((setK_mem Qg8 _ _).1 he)
 have hr:=h.refs p hp o ho
 unfold refB at hr
 rw [if_neg (by omega),if_neg (by omega),if_pos h4,Bool.and_eq_true,Bool.and_eq_true,decide_eq_true_eq] at hr
 refine ⟨hr.1,hr.2.1,hr.2.2, ?_⟩
 obtain ⟨k,hk⟩:=List.getElem?_of_mem ho
 exact goodO_edge (Qg6 ((Qdw (h.good p hp)).2.2.2 k o hk)).1 h4
end Go.Proofs.YtdafiipedlglpaaGreat

/- What is applied hangs together: the statement walked. -/
namespace Go.Proofs.YtdafiipedlglpaaGreat
open Go.RowKit

def RetBuilt (w : World) (L : List PatV) (e : Ending) (w' : World) : Prop:=∃ F g,e = .returned (.pointer (some ⟨g,0,none⟩)) ∧ GraphAt w' F g L ∧ (∀ k,F k → w.heap.size ≤ k) ∧ Below w.heap.size w w'
set_option maxRecDepth 100000 in
set_option maxHeartbeats 4000000 in
theorem build20_any (w : World) (l : List PatV) (A : Option Addr) (n c : Nat) (hm : n ≤ maxLen) (h : PatsAt w A n l) : Calls Tryz.prog 6 #[.slice A n c] w (RetBuilt w (runG [] l)):=by
 have H0:=lH h
 have hln:=lH h.len
 unfold maxLen at hm
 clear h
 go_enter Tryz.func6,Tryz.ntmps6
 go_wp2_with fail
 refine (new20_any _).mono ?_
 rintro e w4 ⟨F,g,rfl,hA,hF,b4⟩
 have GA:=lH hA
 have B4:=lH b4
 have hFw:=lH hF
 clear hA hF b4
 go_wp2_with fail
 go_loopw [4] (fun i wr => ∃ s : Nat,s ≤ n ∧ i = .int .i64 s ∧ Hid (GraphAt wr F g (runG [] (l.take s))) ∧ Hid (Below w.heap.size w wr)) (fun i _ => n - (intOf i).toNat)
 case atStart => exact ⟨0,by omega,rfl,GA.out,B4.out⟩
 case round =>
  clear GA B4
  obtain ⟨s,hs,rfl,GA,B⟩:=hrel
  obtain ⟨wi,rfl⟩ : ∃ wx,wx = wr:=⟨_,rfl⟩
  have hs0 : (0 : Int) ≤ (s : Int):=by omega
  by_cases hst : s < n
  ·have hsk : (s : Int) < (n : Int):=by omega
   obtain ⟨b,o,p,r,rfl,hb,hp,pa,R⟩:=H0.out.at_ hst
   have PI:=lH (pa.in_.ext B.out)
   have RP:=lH (Qac R B.out hb)
   obtain ⟨⟨A1,c1,A2,c2,rfl,_,_⟩,_,_⟩:=pa
   have LP:=lH (runG_snoc [] hp)
   have hA1:=lH (apply20_any GA.out p _ PI.out (fun x (h1 : x < w.heap.size) h2 => Nat.not_lt.2 (hFw.out x h2) h1))
   clear R hb hp
   go_wp2_with (refine wpList_load_mid rfl 64 _ (by rfl) b (o + s * 4) (by rfl) _ _ RP.out Qbf rfl Qa7 ?_)
   refine hA1.out.mono ?_
   rintro e w6 ⟨rfl,kp,hG⟩
   have GA6:=lH hG
   have B6:=lH (B.out.trans (kp.below (B:=w.heap.size) hFw.out B.out.size))
   clear hG kp hA1 GA RP PI B
   go_wp2_with fail
   go_roundw
   case rel => exact ⟨s + 1,by omega,by go_num,by rw [LP.out]; exact GA6.out,B6.out⟩
   case measure => simp [intOf]; omega
  ·have hsk : ¬ (s : Int) < (n : Int):=by omega
   have GA7 : Hid (GraphAt wi F g (runG [] l)):=by
    have h1:=GA.out
    rw [List.take_of_length_le (by rw [hln.out]; omega)] at h1
    exact h1
   clear GA
   go_wp2
   go_ret
   exact ⟨F,g,rfl,GA7.out,hFw.out,B.out⟩
end Go.Proofs.YtdafiipedlglpaaGreat
