/- Texts of general use, one behind another. -/
import Derived.Test.YtdafiipedlglpaaGreatIdxz

/- Of a nil index there is nothing: walked. -/
namespace Go.Proofs.YtdafiipedlglpaaGreat
open Go.RowKit

end Go.Proofs.YtdafiipedlglpaaGreat

/- An index's patches are handed back in rows of their own, each list in a block of its own that may be written: walked. -/
namespace Go.Proofs.YtdafiipedlglpaaGreat
open Go.RowKit

section
variable {w w' : World} {B : Nat} {s : Value} {l : List PatV}
end
end Go.Proofs.YtdafiipedlglpaaGreat

/- Rows of patches that are put behind one another, and written into: plain facts of memory; Get with lists that may be written: walked. -/
namespace Go.Proofs.YtdafiipedlglpaaGreat
open Go.RowKit

theorem Qb7 {P : Program} {Q : Exit → Act → World → Prop} {K : Act → World → Prop} {a : Act} {w : World} {d : Option Tmp} {ty : TypeId} {pos : String} {after : Array Edge} {gd : Option (Nat × Bool)} {s x : Operand} {t e : TypeId} {size bytes : Nat} (T : SlT P t e size bytes)
  {base : Nat} {v : Value} {n : Nat} {xs : List Value} (hown : w.ownsRow base e size v n xs) {B : Nat} {A : Option Addr} {m c : Nat} {news : List Value} (hr : Sl w B size A m news) (h1 : ∀ u ∈ news,u.oneCell' = true) (hbase : base ≤ w.heap.size)
  (hb : (n + m) * bytes ≤ 140737488355328) (hm : n + m ≤ maxLen)
  (hs : a.eval s = v) (hx : a.eval x = .slice A m c)
  (h : ∀ v' w',w'.ownsRow base e size v' (n + m) (xs ++ news) → Kept (fun k => v.ownBlock = some k) w w' → (∀ k,v'.ownBlock = some k → v.ownBlock = some k ∨ w.heap.size ≤ k) → K (a.put d v') w') :
  Oper.wp P ⟨d,.call { callee:=.builtin .append,args:=#[s,x],argTypes:=#[t,t] },ty,pos,after,gd⟩ a w K Q:=by
 obtain ⟨i,z,hi,hz,hsz,hby,hzs⟩:=T.hi
 rcases A with _ | ad
 ·have hm0 : m = 0:=by
   rcases Nat.eq_zero_or_pos m with h0 | h0
   ·exact h0
   ·obtain ⟨b,o,he,_⟩:=hr.2 h0
    cases he
  subst hm0
  have hn : news = []:=List.eq_nil_of_length_eq_zero (by simpa using hr.1)
  subst hn
  have hrun:=Qfs (P:=P) (ty:=ty) T.ht hi hown c
  unfold Oper.wp execOp
  simp only [resolve,invoke,builtin,Sem.run_bind,Sem.run_pure,Result.andThen_ok,List.map_toArray,List.map_cons,List.map_nil,hs,hx,hrun]
  exact h v w (by simpa using hown) (Kept.refl _ _) fun k e => .inl e
 ·have hnews : ∀ j u,news[j]? = some u → w.cell? (ad.add j) = some u:=by
   intro j u hu
   have hj : j < m * size:=by
    have:=(List.getElem?_eq_some_iff.1 hu).1
    rwa [hr.1] at this
   have hm0 : 0 < m:=by
    rcases Nat.eq_zero_or_pos m with h0 | h0
    ·subst h0; simp at hj
    ·exact h0
   obtain ⟨b,o,he,_,hc⟩:=hr.2 hm0
   injection he with he
   subst he
   have ea : (⟨b,o,none⟩ : Addr).add j = ⟨b,o + j,none⟩:=by unfold Addr.add; split <;> simp_all
   rw [ea,hc j hj]; exact hu
  obtain ⟨v',w',hrun,h2,h3,h4⟩:=Qed (P:=P) (w:=w) base t ty e i z size bytes T.ht hi hz hsz hby hzs T.pos v n xs hown ad m c news hr.1 hnews h1 hm hb hbase
  unfold Oper.wp execOp
  simp only [resolve,invoke,builtin,Sem.run_bind,Sem.run_pure,Result.andThen_ok,List.map_toArray,List.map_cons,List.map_nil,hs,hx,hrun]
  exact h v' w' h2 ⟨h3.os,h3.tape,h3.output,h3.size,fun k hk hn => h3.block k hk fun e => hn e.symm⟩ h4
end Go.Proofs.YtdafiipedlglpaaGreat
