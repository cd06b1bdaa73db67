/- Two graphs that hold the same are the same: graph.Same, walked for that case. -/
import Derived.Test.YtdafiipedlglpaaGreatGrl
import Derived.Test.YtdafiipedlglpaaGreatKinds
namespace Go.Proofs.YtdafiipedlglpaaGreat
open Go.RowKit

structure VertsAt (w : World) (A : Option Addr) (n : Nat) (l : List Qa4) : Prop where
 len : l.length = n
 sl : Sl w w.heap.size 9 A n (l.flatMap encX)
theorem VertsAt.ext {w w' : World} {A : Option Addr} {n : Nat} {l : List Qa4} (h : VertsAt w A n l) (hb : Below w.heap.size w w') : VertsAt w' A n l:=⟨h.len,(h.sl.below hb (Nat.le_refl _)).more hb.size⟩
theorem VertsAt.at_ {w : World} {A : Option Addr} {n : Nat} {l : List Qa4} (h : VertsAt w A n l) {k : Nat} (hk : k < n) : ∃ b o x,A = some ⟨b,o,none⟩ ∧ b < w.heap.size ∧ l[k]? = some x ∧ w.rangeAt b (o + k * 9) (encX x):=by
 have hk' : k < l.length:=by rw [h.len]; exact hk
 obtain ⟨b,o,e,hb,hr⟩:=h.sl.rowAt h.len (fun x _ => Qer x) hk'
 exact ⟨b,o,l[k],e,hb,List.getElem?_eq_getElem hk',hr⟩
theorem VertsAt.of_own {w : World} {base n : Nat} {v : Value} {l : List Qa4} (h : w.ownsRow base 56 9 v n (l.flatMap encX)) (hn : l.length = n) : ∃ A c,v = .slice A n c ∧ n ≤ c ∧ VertsAt w A n l:=by
 obtain ⟨A,c,rfl,hc,hs⟩:=Sl.of_own h
 exact ⟨A,c,rfl,hc,hn,hs⟩
structure EdgesAt (w : World) (A : Option Addr) (n : Nat) (l : List Qbv) : Prop where
 len : l.length = n
 sl : Sl w w.heap.size 6 A n (l.flatMap encE)
theorem EdgesAt.ext {w w' : World} {A : Option Addr} {n : Nat} {l : List Qbv} (h : EdgesAt w A n l) (hb : Below w.heap.size w w') : EdgesAt w' A n l:=⟨h.len,(h.sl.below hb (Nat.le_refl _)).more hb.size⟩
theorem EdgesAt.at_ {w : World} {A : Option Addr} {n : Nat} {l : List Qbv} (h : EdgesAt w A n l) {k : Nat} (hk : k < n) : ∃ b o x,A = some ⟨b,o,none⟩ ∧ b < w.heap.size ∧ l[k]? = some x ∧ w.rangeAt b (o + k * 6) (encE x):=by
 have hk' : k < l.length:=by rw [h.len]; exact hk
 obtain ⟨b,o,e,hb,hr⟩:=h.sl.rowAt h.len (fun x _ => Qda x) hk'
 exact ⟨b,o,l[k],e,hb,List.getElem?_eq_getElem hk',hr⟩
theorem EdgesAt.of_own {w : World} {base n : Nat} {v : Value} {l : List Qbv} (h : w.ownsRow base 88 6 v n (l.flatMap encE)) (hn : l.length = n) : ∃ A c,v = .slice A n c ∧ n ≤ c ∧ EdgesAt w A n l:=by
 obtain ⟨A,c,rfl,hc,hs⟩:=Sl.of_own h
 exact ⟨A,c,rfl,hc,hn,hs⟩
theorem neqX_self (x : Qa4) (w : World) : (binOp .neq 56 (.agg (encX x).toArray) (.agg (encX x).toArray)).run Tryz.prog w = .ok (.bool false) w:=by
 unfold encX
 simp [go_sem]
end Go.Proofs.YtdafiipedlglpaaGreat
