/- Texts of general use, one behind another. -/
import Derived.Test.YtdafiipedlglpaaGreatGrl
import Derived.Test.YtdafiipedlglpaaGreatGrns
import Derived.Test.YtdafiipedlglpaaGreatRlts
import Derived.Test.YtdafiipedlglpaaGreatGrm
import Derived.Test.YtdafiipedlglpaaGreatSets
import Derived.Test.YtdafiipedlglpaaGreatRgab
import Derived.Test.YtdafiipedlglpaaGreatVids
import Derived.Test.YtdafiipedlglpaaGreatRgs
import Derived.Test.YtdafiipedlglpaaGreatRgf

/- The lines of a file: their places, their steps, what stays: plain laws; no program in sight. -/
namespace Go.Proofs.YtdafiipedlglpaaGreat
open Go.RowKit

def Qdf (L : List PatV) (f : VidV) : List Qa4:=ofL L f 3
def posL (l : List Qa4) (v : VidV) : Nat:=l.findIdx fun x => decide (x.1 = v)
def Qh0 (L : List PatV) (f : VidV) : List (Nat × Nat):=(Qef L f).map fun e => (posL (Qdf L f) e.1,posL (Qdf L f) e.2)
theorem linesL_rise {L : List PatV} (hG : GrOk L) (f : VidV) : Qfa keyX (Qdf L f):=List.Pairwise.filter _ hG.verts_rise
theorem linesL_mem {L : List PatV} (hG : GrOk L) {f : VidV} {x : Qa4} : x ∈ Qdf L f ↔ Qbo L x.1 = some x ∧ x.2.1.val = 3 ∧ x.2.2.1 = f:=by
 unfold Qdf ofL
 rw [List.mem_filter,hG.verts,Bool.and_eq_true,decide_eq_true_eq,decide_eq_true_eq]
theorem line_of {L : List PatV} (hG : GrOk L) {v f : VidV} (hk : Qdx (rawV L) v 3 = true) (hf : Qb6 L v = f) : ∃ x ∈ Qdf L f,x.1 = v:=by
 obtain ⟨r,hr,hk⟩:=Qdq hk
 have e : Qbo L v = some (v,r.1,r.2.1,r.2.2,deadV L v):=by unfold Qbo; rw [hr]; rfl
 refine ⟨(v,r.1,r.2.1,r.2.2,deadV L v),(linesL_mem hG).2 ⟨e,hk, ?_⟩,rfl⟩
 unfold Qb6 fileF at hf
 rw [hr] at hf
 exact hf
theorem Qh8 {l : List Qa4} {v : VidV} (h : ∃ x ∈ l,x.1 = v) : ∃ x,l[posL l v]? = some x ∧ x.1 = v:=by
 have hl : posL l v < l.length:=List.findIdx_lt_length_of_exists (by obtain ⟨x,hx,e⟩:=h; exact ⟨x,hx,dqT e⟩)
 refine ⟨l[posL l v],List.getElem?_eq_getElem hl, ?_⟩
 have:=List.findIdx_getElem (w:=hl)
 exact of_decide_eq_true this
theorem steps_of {L : List PatV} {f : VidV} {e : Qbv} (h : e ∈ Qef L f) : e ∈ Qd4 L ∧ Qb6 L e.1 = f:=by
 unfold Qef at h
 rw [List.mem_filter,decide_eq_true_eq] at h
 exact h
theorem steps_in {L : List PatV} (hG : GrOk L) {f : VidV} {e : Qbv} (h : e ∈ Qef L f) : (∃ x ∈ Qdf L f,x.1 = e.1) ∧ ∃ y ∈ Qdf L f,y.1 = e.2:=by
 obtain ⟨h1,h2⟩:=steps_of h
 obtain ⟨k1,k2,k3,_⟩:=hG.edge h1
 exact ⟨line_of hG k1 h2,line_of hG k2 (k3.symm.trans h2)⟩
theorem stepsN_lt {L : List PatV} (hG : GrOk L) {f : VidV} : ∀ x ∈ Qh0 L f,x.1 < (Qdf L f).length ∧ x.2 < (Qdf L f).length:=by
 intro x hx
 obtain ⟨e,he,rfl⟩:=List.mem_map.1 hx
 obtain ⟨h1,h2⟩:=steps_in hG he
 obtain ⟨a,ha,_⟩:=Qh8 h1
 obtain ⟨b,hb,_⟩:=Qh8 h2
 exact ⟨(List.getElem?_eq_some_iff.1 ha).1,(List.getElem?_eq_some_iff.1 hb).1⟩
/-! With patches more -/
end Go.Proofs.YtdafiipedlglpaaGreat

/- The lines of a file as they lie; which are alive: a list of numbers cut short in place: walked. -/
namespace Go.Proofs.YtdafiipedlglpaaGreat
open Go.RowKit

def deadI (X : List Qa4) (i : Nat) : Bool:=match X[i]? with | some x => x.2.2.2.2 | none => true
theorem deadI_some {X : List Qa4} {i : Nat} {x : Qa4} (h : X[i]? = some x) : deadI X i = x.2.2.2.2:=by unfold deadI; rw [h]
def encI1 (i : Nat) : List Value:=[.int .i64 ((i : Nat) : Int)]
theorem encI1_len (i : Nat) : (encI1 i).length = 1:=rfl
theorem encI1_flat (F : List Nat) : F.flatMap encI1 = encN F:=by
 unfold encN
 induction F with
 | nil => rfl
 | cons x F ih => rw [List.flatMap_cons,List.map_cons,ih]; rfl
def SheetAt (w : World) (g : Nat) (X : List Qa4) (R : Nat → Nat → Bool) (F : List Nat) : Prop:=
 ∃ Al cl gr Ao co,Blk w g 79 #[.slice Al X.length cl,.pointer (some ⟨gr,0,none⟩),.slice Ao F.length co] ∧ VertsAt w Al X.length X ∧ RelAt w gr X.length R ∧ w.ownsRow 0 3 1 (.slice Ao F.length co) F.length (encN F)
theorem Qd2 {w w' : World} {size n : Nat} {A : Option Addr} {xs : List Value} (h : Sl w w.heap.size size A n xs) (hb : Below w.heap.size w w') : Sl w' w'.heap.size size A n xs:=(h.below hb (Nat.le_refl _)).more hb.size
theorem own_slN {w : World} {base n c : Nat} {A : Option Addr} {xs : List Value} (h : w.ownsRow base 3 1 (.slice A n c) n xs) : Sl w w.heap.size 1 A n xs:=by
 obtain ⟨A',c',e,_,hs⟩:=Sl.of_own h
 cases e
 exact hs
theorem SheetAt.ext {w w' : World} {g : Nat} {X : List Qa4} {R : Nat → Nat → Bool} {F : List Nat} (h : SheetAt w g X R F) (hb : Below w.heap.size w w') : SheetAt w' g X R F:=by
 obtain ⟨Al,cl,gr,Ao,co,h1,h2,h3,h4⟩:=h
 exact ⟨Al,cl,gr,Ao,co,h1.ext hb,h2.ext hb,h3.ext hb,Qap h4 hb⟩
theorem x_dead {w : World} {b o : Nat} {x : Qa4} (h : w.rangeAt b o (encX x)) : w.cell? ⟨b,o + 8,none⟩ = some (.bool x.2.2.2.2):=h 8 _ rfl
structure SeesL (w : World) (gb : Nat) (X : List Qa4) : Prop where
 ex : ∃ gs Al cl r q,w.cell? ⟨gb,0,none⟩ = some (.pointer (some ⟨gs,0,none⟩)) ∧ Blk w gs 79 #[.slice Al X.length cl,r,q] ∧ VertsAt w Al X.length X
set_option maxRecDepth 100000 in
set_option maxHeartbeats 1000000 in
theorem alive1_any {w : World} {gb : Nat} {X : List Qa4} (h : SeesL w gb X) (i : Nat) (hi : i < X.length) : Calls Tryz.prog 45 #[.int .i64 ((i : Nat) : Int),.pointer (some ⟨gb,0,none⟩)] w (Ret w (.bool (deadI X i))):=by
 obtain ⟨gs,Al,cl,r,q,y1,hK,hV⟩:=h.ex
 have y2 : w.cell? ⟨gs,0,none⟩ = some (.slice Al X.length cl):=hK.cell 0
 obtain ⟨b,o,x,rfl,_,hx,R⟩:=hV.at_ hi
 have E:=lH (deadI_some hx)
 have y3 : w.cell? ⟨b,o + i * 9 + 8,none⟩ = some (.bool x.2.2.2.2):=x_dead R
 have hk0 : (0 : Int) ≤ (i : Int):=by omega
 have hlk : (i : Int) < (X.length : Int):=by omega
 clear hK hV R hx h
 go_enter Tryz.func45,Tryz.ntmps45
 go_wp2
 go_ret
 exact ⟨Qag E.out.symm,rfl⟩
theorem intSlL : SlT Tryz.prog 50 3 1 8:=Qh1 Tryz.underlying50 (z:=.int .i64 0) (by kernel_rfl) rfl (by omega)
theorem zeroI (w : World) : (zeroValue 3).run Tryz.prog w = .ok (.int .i64 0) w:=by kernel_rfl
set_option maxRecDepth 100000 in
set_option maxHeartbeats 2000000 in
theorem cloneI (F : List Nat) (w : World) (A : Option Addr) (n c : Nat) (hm : n ≤ 100000) (hl : F.length = n) (h : Sl w w.heap.size 1 A n (encN F)) :
  Calls Tryz.prog 42 #[.slice A n c] w (OwnedRet w 3 1 n (encN F)):=by
 have HE : ∀ u : World,(binOp .eql 50 (.slice A n c) (.slice none 0 0)).run Tryz.prog u = .ok (.bool A.isNone) u:=fun u => Lib.run_eql_slice_nil u _ _ A n c 0 0 Tryz.underlying50
 have HS:=lH h
 have HL:=lH hl
 have hone : Hid (∀ u ∈ encN F,u.oneCell' = true):=encN_one F
 clear h hl
 cases A with
 | none =>
  have hn0 : n = 0:=by
   rcases Nat.eq_zero_or_pos n with h0 | h0
   ·exact h0
   ·obtain ⟨b,o,e,_⟩:=HS.out.2 h0; cases e
  subst hn0
  have hl : Hid (F = []):=List.length_eq_zero_iff.1 HL.out
  have HE' : ∀ u : World,(binOp .eql 50 (.slice none 0 c) (.slice none 0 0)).run Tryz.prog u = .ok (.bool true) u:=HE
  clear HE
  go_enter Tryz.func42,Tryz.ntmps42
  go_wp2
  go_ret
  refine ⟨_,rfl, ?_,Below.refl _ _⟩
  rw [hl.out]
  exact World.ownsRow_nil _ _ _ _
 | some a =>
  have HE' : ∀ u : World,(binOp .eql 50 (.slice (some a) n c) (.slice none 0 0)).run Tryz.prog u = .ok (.bool false) u:=HE
  clear HE
  have B0 : Hid (Below w.heap.size w (w.alloc (.cells #[] 3))):=Qaf _ _
  have O0 : Hid ((w.alloc (.cells #[] 3)).ownsRow w.heap.size 3 1 (.slice (some ⟨w.heap.size,0,none⟩) 0 0) 0 []):=
   ⟨rfl,.inr ⟨w.heap.size,0,#[],rfl,Nat.le_refl _,heap_alloc_new w _,Nat.le_refl _,by simp,rfl,rfl⟩⟩
  have S0 : Hid (Sl (w.alloc (.cells #[] 3)) w.heap.size 1 (some a) n (encN F)):=HS.out.below B0.out (Nat.le_refl _)
  go_enter Tryz.func42,Tryz.ntmps42
  go_wp2_with (first
   | (refine wpList_built0 intSlL ?_)
   | (at_builtin; refine Qfp intSlL O0.out S0.out hone.out B0.out.size (by omega) (by unfold maxLen; omega) (by rfl) (by rfl) ?_; intro v2 w2 own1 bel1))
  have O1:=lH own1
  have B1:=lH (B0.out.trans bel1)
  clear own1 bel1 O0 S0
  rw [Nat.zero_add,List.nil_append] at O1
  obtain ⟨A9,c9,rfl,_,_⟩:=Sl.of_own O1.out
  go_wp2
  go_ret
  exact ⟨_,rfl,O1.out,B1.out⟩
def RetIx (w : World) (d : Nat → Bool) (F : List Nat) (e : Ending) (w' : World) : Prop:=
 w' = w ∧ ((F.any d = false ∧ e = .returned (.int .i64 (-1))) ∨ ∃ k x,F[k]? = some x ∧ d x = true ∧ (F.take k).any d = false ∧ e = .returned (.int .i64 ((k : Nat) : Int)))
theorem anyN_snoc {d : Nat → Bool} {F : List Nat} {k x : Nat} (h : F[k]? = some x) (hn : (F.take k).any d = false) : (F.take (k + 1)).any d = d x:=by
 rw [List.take_add_one,h,List.any_append,hn]; simp
theorem sl_cell {w : World} {A : Option Addr} {F : List Nat} {n : Nat} (h : Sl w w.heap.size 1 A n (encN F)) (hn : F.length = n) {k : Nat} (hk : k < n) : ∃ b o x,A = some ⟨b,o,none⟩ ∧ b < w.heap.size ∧ F[k]? = some x ∧ w.cell? ⟨b,o + k,none⟩ = some (.int .i64 ((x : Nat) : Int)):=by
 obtain ⟨b,o,e,hb,hc⟩:=h.2 (by omega)
 have hx : F[k]? = some F[k]:=List.getElem?_eq_getElem (by omega)
 refine ⟨b,o,F[k],e,hb,hx, ?_⟩
 rw [hc k (by omega)]
 unfold encN
 rw [List.getElem?_map,hx]
 rfl
set_option maxRecDepth 100000 in
set_option maxHeartbeats 2000000 in
theorem indexI {w : World} {gb : Nat} {X : List Qa4} (hS : SeesL w gb X) (F : List Nat) (hF : ∀ i ∈ F,i < X.length) (A : Option Addr) (c : Nat) (h : Sl w w.heap.size 1 A F.length (encN F)) (hm : F.length ≤ 100000) :
  Calls Tryz.prog 77 #[.slice A F.length c,.func (.func 45) #[] #[.pointer (some ⟨gb,0,none⟩)]] w (RetIx w (deadI X) F):=by
 have HS:=lH h
 have hF:=lH hF
 have hS:=lH hS
 clear h
 obtain ⟨n,hn⟩ : ∃ n,n = F.length:=⟨_,rfl⟩
 have hcl : Hid (∀ k,k < n → ∃ b o x,A = some ⟨b,o,none⟩ ∧ b < w.heap.size ∧ F[k]? = some x ∧ w.cell? ⟨b,o + k,none⟩ = some (.int .i64 ((x : Nat) : Int))):=fun k hk => sl_cell (n:=n) (by rw [hn]; exact HS.out) hn.symm hk
 rw [← hn] at hm ⊢
 replace hn:=lH hn
 clear HS
 go_enter Tryz.func77,Tryz.ntmps77
 go_wp2_with fail
 go_loopw [8] (fun i wr => ∃ k : Nat,k ≤ n ∧ i = .int .i64 k ∧ Hid ((F.take k).any (deadI X) = false) ∧ Hid (wr = w)) (fun i _ => n - (intOf i).toNat)
 case atStart => exact ⟨0,by omega,rfl,rfl,rfl⟩
 case round =>
  obtain ⟨k,hk,rfl,T,hw⟩:=hrel
  obtain rfl:=hw.out
  clear hw
  have hk0 : (0 : Int) ≤ (k : Int):=by omega
  by_cases hlt : k < n
  ·have hlk : (k : Int) < (n : Int):=by omega
   obtain ⟨b,o,x,rfl,hb,hx,yc⟩:=hcl.out k hlt
   have hxl:=hF.out x (List.mem_of_getElem? hx)
   have HC:=lH (alive1_any hS.out x hxl)
   have N:=lH (anyN_snoc (d:=deadI X) hx T.out)
   have hx:=lH hx
   cases hd : deadI X x
   ·rw [hd] at HC N
    clear hb T hd hxl
    go_wp2_with fail
    refine HC.out.mono ?_
    rintro e _ ⟨rfl,rfl⟩
    clear HC
    go_wp2_with fail
    go_roundw
    case rel => exact ⟨k + 1,by omega,by go_num,N.out,trivial⟩
    case measure => simp [intOf]; omega
   ·rw [hd] at HC
    have hd:=lH hd
    clear hb N hxl
    go_wp2_with fail
    refine HC.out.mono ?_
    rintro e _ ⟨rfl,rfl⟩
    clear HC
    go_wp2_with fail
    go_ret
    exact ⟨rfl,.inr ⟨k,x,hx.out,hd.out,T.out,rfl⟩⟩
  ·have hlk : ¬ (k : Int) < (n : Int):=by omega
   rw [List.take_of_length_le (by rw [← hn.out]; omega)] at T
   go_wp2_with fail
   go_ret
   exact ⟨rfl,.inl ⟨T.out,rfl⟩⟩
end Go.Proofs.YtdafiipedlglpaaGreat

/- Those that are alive, out of a list of one's own: walked. -/
namespace Go.Proofs.YtdafiipedlglpaaGreat
open Go.RowKit

def Qen (X : List Qa4) (F : List Nat) : List Nat:=F.filter fun i => !deadI X i
theorem filtN_t {q : Nat → Bool} {F : List Nat} {k x : Nat} (h : F[k]? = some x) (hq : q x = true) : (F.take (k + 1)).filter q = (F.take k).filter q ++ [x]:=by
 rw [List.take_add_one,h,List.filter_append]; simp [hq]
theorem filtN_f {q : Nat → Bool} {F : List Nat} {k x : Nat} (h : F[k]? = some x) (hq : q x = false) : (F.take (k + 1)).filter q = (F.take k).filter q:=by
 rw [List.take_add_one,h,List.filter_append]; simp [hq]
theorem filtN_all {d : Nat → Bool} {F : List Nat} (h : F.any d = false) : F.filter (fun i => !d i) = F:=by
 rw [List.filter_eq_self]
 intro x hx
 have:=List.any_eq_false.1 h x hx
 simpa using this
set_option maxRecDepth 100000 in
set_option maxHeartbeats 4000000 in
theorem deleteI {w : World} {gb base g cap n : Nat} {X : List Qa4} (F : List Nat) (hl : F.length = n) (hm : n ≤ 100000) (hF : ∀ i ∈ F,i < X.length) (hS : ∀ w',Below base w w' → SeesL w' gb X)
  (h : w.ownsRow base 3 1 (.slice (some ⟨g,0,none⟩) n cap) n (encN F)) :
  Calls Tryz.prog 44 #[.slice (some ⟨g,0,none⟩) n cap,.func (.func 45) #[] #[.pointer (some ⟨gb,0,none⟩)]] w fun e w' =>
   e = .returned (.slice (some ⟨g,0,none⟩) (Qen X F).length cap) ∧ w'.ownsRow base 3 1 (.slice (some ⟨g,0,none⟩) (Qen X F).length cap) (Qen X F).length (encN (Qen X F)) ∧ Below base w w':=by
 have HL:=lH hl
 have hF:=lH hF
 have hS:=lH hS
 have O:=lH h
 have hnc : n ≤ cap:=by
  rcases h.2 with ⟨h',_⟩ | ⟨g',cap',cur,h',_,_,hnc,_⟩
  ·simp at h'
  ·simp only [Value.slice.injEq,Option.some.injEq,Addr.mk.injEq,and_true,true_and] at h'
   omega
 obtain ⟨A',c',e,_,hs⟩:=Sl.of_own h
 cases e
 have HI:=lH (indexI (hS.out w (Below.refl _ _)) F hF.out (some ⟨g,0,none⟩) cap (by rw [hl]; exact hs) (by omega))
 rw [hl] at HI
 clear hs h hl
 go_enter Tryz.func44,Tryz.ntmps44
 go_wp2_with fail
 refine HI.out.mono ?_
 rintro e w1 ⟨hw1,hr⟩
 have hw1:=hw1.symm
 subst hw1
 rcases hr with ⟨ha,rfl⟩ | ⟨k,x,hx,hd,ht,rfl⟩
 ·have N : Hid (Qen X F = F):=filtN_all ha
  clear ha HI
  go_wp2_with fail
  go_ret
  rw [N.out,HL.out]
  exact ⟨rfl,O.out,Below.refl _ _⟩
 ·have hk : k < n:=by have:=(List.getElem?_eq_some_iff.1 hx).1; have:=HL.out; omega
  have N0 : Hid (F.take k = (F.take (k + 1)).filter fun i => !deadI X i):=by rw [Hid,filtN_f hx (by rw [hd]; rfl),filtN_all ht]
  have hk0 : (0 : Int) ≤ (k : Int):=by omega
  have z1 : ((k : Int) == -1) = false:=by rw [beq_eq_false_iff_ne]; omega
  clear HI hx hd ht
  have BS:=lH (Below.refl base w)
  go_wp2_with fail
  clear z1
  go_loopw [6,5] (fun jv iv wr => ∃ (j i : Nat) (bs : List Nat),i < j ∧ j ≤ n ∧ jv = .int .i64 j ∧ iv = .int .i64 i ∧ bs.length = n ∧ Hid (bs.take i = (F.take j).filter fun i => !deadI X i) ∧ Hid (bs.drop j = F.drop j) ∧ Hid (wr.ownsRow base 3 1 (.slice (some ⟨g,0,none⟩) n cap) n (encN bs)) ∧ Hid (Below base w wr)) (fun jv _ _ => n - (intOf jv).toNat)
  case atStart => exact ⟨k + 1,k,F,by omega,by omega,by go_num,rfl,HL.out,N0.out,rfl,O.out,BS.out⟩
  case round =>
   clear O BS N0
   obtain ⟨j,i,bs,hij,hj,rfl,rfl,hbl,TK,DR,O,B⟩:=hrel
   obtain ⟨wi,rfl⟩ : ∃ wx,wx = wr:=⟨_,rfl⟩
   have hj0 : (0 : Int) ≤ (j : Int):=by omega
   have hi0 : (0 : Int) ≤ (i : Int):=by omega
   by_cases hlt : j < n
   ·have hlj : (j : Int) < (n : Int):=by omega
    have hli : (i : Int) < (n : Int):=by omega
    obtain ⟨v,hv⟩ : ∃ v,bs[j]? = some v:=⟨_,List.getElem?_eq_getElem (by omega)⟩
    have hv2 : F[j]? = some v:=by
     have h1:=congrArg (fun l : List Nat => l[0]?) DR.out
     simp only [List.getElem?_drop,Nat.add_zero] at h1
     rw [← h1]; exact hv
    have hvX:=hF.out v (List.mem_of_getElem? hv2)
    have HC:=lH (alive1_any (hS.out wi B.out) v hvX)
    have yc : wi.cell? ⟨g,j,none⟩ = some (.int .i64 ((v : Nat) : Int)):=by
     obtain ⟨A',c',e,_,hs⟩:=Sl.of_own O.out
     cases e
     obtain ⟨b,o,x,e1,_,e2,e3⟩:=sl_cell hs hbl hlt
     cases e1
     rw [hv] at e2
     cases e2
     rw [Nat.zero_add] at e3
     exact e3
    have DR2 : Hid (bs.drop (j + 1) = F.drop (j + 1)):=by
     have h1:=congrArg (List.drop 1) DR.out
     rw [List.drop_drop,List.drop_drop] at h1
     exact h1
    cases hd : deadI X v
    ·have N:=lH (filtN_t (q:=fun i => !deadI X i) hv2 (by rw [hd]; rfl))
     rw [hd] at HC
     clear hd hv hv2 hvX DR
     go_wp2_with fail
     refine HC.out.mono ?_
     rintro e _ ⟨rfl,rfl⟩
     have hth:=Qfw O.out (o:=i) (m:=1) (by omega)
     obtain ⟨hc1,fi⟩:=hth 0 (by omega)
     obtain ⟨u,yi⟩:=Option.isSome_iff_exists.1 hc1
     rw [Nat.add_zero] at yi fi
     obtain ⟨o1,o2⟩:=Qeb [.int .i64 ((v : Nat) : Int)] i wi _ O.out (by show i + 1 ≤ n * 1; omega)
     have S2:=set_flat encI1_len bs (show i < bs.length by omega) v
     rw [encI1_flat,encI1_flat,Nat.mul_one] at S2
     have O4 : Hid ((wi.setCell ⟨g,i,none⟩ (.int .i64 ((v : Nat) : Int))).ownsRow base 3 1 (.slice (some ⟨g,0,none⟩) n cap) n (encN (bs.set i v))):=by rw [Hid,← S2]; exact o1
     have B4 : Hid (Below base w (wi.setCell ⟨g,i,none⟩ (.int .i64 ((v : Nat) : Int)))):=B.out.trans o2
     have T2:=lH (set_take (l:=bs) v (show i < bs.length by omega))
     have D2 : Hid ((bs.set i v).drop (j + 1) = F.drop (j + 1)):=by rw [Hid,List.drop_set_of_lt (by omega)]; exact DR2.out
     clear hth hc1 o1 o2 S2 DR2 HC yc
     go_wp2_with fail
     go_roundw
     case rel => exact ⟨j + 1,i + 1,bs.set i v,by omega,by omega,by go_num,by go_num,by rw [List.length_set]; exact hbl,by rw [Hid,T2.out,TK.out,N.out],D2.out,O4.out,B4.out⟩
     case measure => simp [intOf]; omega
    ·have N:=lH (filtN_f (q:=fun i => !deadI X i) hv2 (by rw [hd]; rfl))
     rw [hd] at HC
     clear hd hv hv2 hvX DR
     go_wp2_with fail
     refine HC.out.mono ?_
     rintro e _ ⟨rfl,rfl⟩
     clear HC yc
     go_wp2_with fail
     go_roundw
     case rel => exact ⟨j + 1,i,bs,by omega,by omega,by go_num,rfl,hbl,by rw [Hid,TK.out,N.out],DR2.out,O.out,B.out⟩
     case measure => simp [intOf]; omega
   ·have hlj : ¬ (j : Int) < (n : Int):=by omega
    have NE : Hid (bs.take i = Qen X F):=by
     have h1:=TK.out
     rw [List.take_of_length_le (l:=F) (by rw [HL.out]; omega)] at h1
     exact h1
    have NL : Hid ((Qen X F).length = i):=by rw [Hid,← NE.out,List.length_take]; omega
    have HC:=fun ty => (Qdn (P:=Tryz.prog) (size:=1) wi 50 3 ty _ Tryz.underlying50 zeroI rfl (by omega) (by intro v hv; simp [Value.cells] at hv; subst hv; rfl) g (i * 1) (n - i) (cap - i) (by omega) (Qfw O.out (by omega))).1
    have HLn:=(Qdn (P:=Tryz.prog) (size:=1) wi 50 3 0 _ Tryz.underlying50 zeroI rfl (by omega) (by intro v hv; simp [Value.cells] at hv; subst hv; rfl) g (i * 1) (n - i) (cap - i) (by omega) (Qfw O.out (by omega))).2
    clear TK DR
    obtain ⟨o1,o2⟩:=Qeb _ (i * 1) wi _ O.out (by rw [HLn]; omega)
    have O4:=lH (own_cut o1 (show i ≤ n by omega))
    have B4:=lH (B.out.trans o2)
    have hkc : ¬ cap = i:=by omega
    have hkc2 : (i : Int) ≤ (cap : Int):=by omega
    have hkl : (i : Int) ≤ (n : Int):=by omega
    clear o1 o2 HLn
    generalize (Builtin.zeroCells (Value.int .i64 0).cells (n - i)).toList = zs at *
    rw [Nat.mul_one] at HC O4 B4
    go_wp2
    go_ret
    have e1 : List.take i (List.take i (encN bs) ++ zs ++ List.drop (i + zs.length) (encN bs)) = encN (Qen X F):=by
     have hlen : (encN bs).length = bs.length:=by unfold encN; rw [List.length_map]
     rw [List.append_assoc,List.take_append_of_le_length (by rw [List.length_take,hlen]; omega),List.take_take,Nat.min_self,← NE.out]
     unfold encN
     rw [List.map_take]
    have O5:=O4.out
    rw [e1] at O5
    rw [NL.out]
    exact ⟨rfl,O5,B4.out⟩
end Go.Proofs.YtdafiipedlglpaaGreat

/- The lines of a file: how many, their relation, their order, who is alive, a line, whether it is alike no other: walked. -/
namespace Go.Proofs.YtdafiipedlglpaaGreat
open Go.RowKit

section
variable {w : World} {g : Nat} {X : List Qa4} {R : Nat → Nat → Bool} {F : List Nat}
set_option maxRecDepth 100000 in
theorem Qih (h : SheetAt w g X R F) : Calls Tryz.prog 11 #[.pointer (some ⟨g,0,none⟩)] w (Ret w (.int .i64 ((X.length : Nat) : Int))):=by
 obtain ⟨Al,cl,gr,Ao,co,h1,_,_,_⟩:=h
 have y0 : w.cell? ⟨g,0,none⟩ = some (.slice Al X.length cl):=h1.cell 0
 clear h1
 go_enter Tryz.func11,Tryz.ntmps11
 go_wp2
 go_ret
 exact ⟨rfl,rfl⟩
def RetRl (w : World) (n : Nat) (R : Nat → Nat → Bool) (e : Ending) (w' : World) : Prop:=∃ gr,e = .returned (.pointer (some ⟨gr,0,none⟩)) ∧ RelAt w' gr n R ∧ w' = w
set_option maxRecDepth 100000 in
theorem rel21_any (h : SheetAt w g X R F) : Calls Tryz.prog 12 #[.pointer (some ⟨g,0,none⟩)] w (RetRl w X.length R):=by
 obtain ⟨Al,cl,gr,Ao,co,h1,_,h3,_⟩:=h
 have y1 : w.cell? ⟨g,1,none⟩ = some (.pointer (some ⟨gr,0,none⟩)):=h1.cell 1
 have h3:=lH h3
 clear h1
 go_enter Tryz.func12,Tryz.ntmps12
 go_wp2
 go_ret
 exact ⟨gr,rfl,h3.out,rfl⟩
set_option maxRecDepth 100000 in
theorem order21_any (h : SheetAt w g X R F) (hm : F.length ≤ 100000) : Calls Tryz.prog 15 #[.pointer (some ⟨g,0,none⟩)] w (OwnedRet w 3 1 F.length (encN F)):=by
 obtain ⟨Al,cl,gr,Ao,co,h1,_,_,h4⟩:=h
 have y2 : w.cell? ⟨g,2,none⟩ = some (.slice Ao F.length co):=h1.cell 2
 have HC:=lH (cloneI F w Ao F.length co hm rfl (own_slN h4))
 clear h1 h4
 obtain ⟨n,hn⟩ : ∃ n,n = F.length:=⟨_,rfl⟩
 rw [← hn] at y2 HC hm ⊢
 replace hn:=lH hn
 go_enter Tryz.func15,Tryz.ntmps15
 go_wp2_with fail
 refine HC.out.mono ?_
 rintro e w2 ⟨v,rfl,o,b⟩
 have O:=lH o
 have B:=lH b
 clear o b HC
 go_wp2
 go_ret
 exact ⟨_,rfl,O.out,B.out⟩
set_option maxRecDepth 100000 in
set_option maxHeartbeats 2000000 in
theorem deleteI_nil (w : World) (fn : Value) : Calls Tryz.prog 44 #[.slice none 0 0,fn] w (Ret w (.slice none 0 0)):=by
 have HI : Hid (Calls Tryz.prog 77 #[.slice none 0 0,fn] w (Ret w (.int .i64 (-1)))):=by
  go_enter Tryz.func77,Tryz.ntmps77
  go_wp2_with fail
  go_loopw [8] (fun i wr => i = .int .i64 0 ∧ Hid (wr = w)) (fun _ _ => 0)
  case atStart => exact ⟨rfl,rfl⟩
  case round =>
   obtain ⟨rfl,hw⟩:=hrel
   obtain rfl:=hw.out
   go_wp2
   go_ret
   exact ⟨rfl,rfl⟩
 go_enter Tryz.func44,Tryz.ntmps44
 go_wp2_with fail
 refine HI.out.mono ?_
 rintro e _ ⟨rfl,rfl⟩
 go_wp2
 go_ret
 exact ⟨rfl,rfl⟩
set_option maxRecDepth 100000 in
set_option maxHeartbeats 2000000 in
theorem alive21_any (h : SheetAt w g X R F) (hm : F.length ≤ 100000) (hF : ∀ i ∈ F,i < X.length) : Calls Tryz.prog 17 #[.pointer (some ⟨g,0,none⟩)] w (OwnedRet w 3 1 (Qen X F).length (encN (Qen X F))):=by
 have KB : Hid (Blk (w.alloc (.cells #[.pointer (some ⟨g,0,none⟩)] 37)) w.heap.size 37 #[.pointer (some ⟨g,0,none⟩)]):=Blk.new _ _ _
 have B0 : Hid (Below w.heap.size w (w.alloc (.cells #[.pointer (some ⟨g,0,none⟩)] 37))):=Qaf _ _
 have HS:=lH (h.ext B0.out)
 clear h
 go_enter Tryz.func17,Tryz.ntmps17
 go_upto_region 1 with fail
 generalize (w.alloc (.cells #[.pointer (some ⟨g,0,none⟩)] 37)) = w2 at *
 have hw2 : Hid (w.heap.size ≤ w2.heap.size):=B0.out.size
 obtain ⟨gb,hgb⟩ : ∃ gb,gb = w.heap.size:=⟨_,rfl⟩
 rw [← hgb] at KB ⊢
 replace hgb:=lH hgb
 have SL : Hid (∀ w',Below w2.heap.size w2 w' → SeesL w' gb X):=fun w' hb => by
  obtain ⟨Al,cl,gr,Ao,co,h1,h2,_,_⟩:=HS.out
  exact ⟨g,Al,cl,_,_,(KB.out.ext hb).cell 0,h1.ext hb,h2.ext hb⟩
 have HO:=lH (order21_any HS.out hm)
 have y0 : w2.cell? ⟨gb,0,none⟩ = some (.pointer (some ⟨g,0,none⟩)):=KB.out.cell 0
 have hF:=lH hF
 clear HS KB
 go_wp2_with fail
 refine HO.out.mono ?_
 rintro e w3 ⟨v,rfl,o,b⟩
 have B3:=lH (B0.out.trans (b.mono B0.out.size))
 have S3:=lH (fun w' (hb : Below w2.heap.size w3 w') => SL.out w' (b.trans hb))
 clear HO SL y0 b B0
 rcases o.2 with ⟨ho,hx⟩ | ⟨g',cap',cur,ho,hx⟩
 ·subst ho
  have hF0 : F = []:=by
   have h1:=o.1
   cases F with
   | nil => rfl
   | cons a F => simp at hx
  clear o hx
  subst hF0
  go_wp2_with fail
  refine (deleteI_nil w3 _).mono ?_
  rintro e _ ⟨rfl,rfl⟩
  go_wp2
  go_ret
  exact ⟨_,rfl,World.ownsRow_nil _ _ _ _,B3.out⟩
 ·subst ho
  have HD:=lH (deleteI (base:=w2.heap.size) F rfl hm hF.out S3.out o)
  clear o hx
  obtain ⟨n,hn⟩ : ∃ n,n = F.length:=⟨_,rfl⟩
  rw [← hn] at HD ⊢
  replace hn:=lH hn
  clear hm
  go_wp2_with fail
  refine HD.out.mono ?_
  rintro e w4 ⟨rfl,o4,b4⟩
  have O4:=lH (Qbk o4 hw2.out)
  have B4:=lH (B3.out.trans (b4.mono hw2.out))
  clear o4 b4 HD
  go_wp2
  go_ret
  exact ⟨_,rfl,O4.out,B4.out⟩
def lineI (X : List Qa4) (i : Int) : Qa4 × Bool:=if 0 ≤ i then (match X[i.toNat]? with | some x => (x,true) | none => (Qbr,false)) else (Qbr,false)
theorem lineI_some {X : List Qa4} {k : Nat} {x : Qa4} (h : X[k]? = some x) : lineI X (k : Int) = (x,true):=by
 unfold lineI
 rw [if_pos (by omega),Int.toNat_natCast,h]
theorem lineI_out {X : List Qa4} {i : Int} (h : i < 0 ∨ (X.length : Int) ≤ i) : lineI X i = (Qbr,false):=by
 unfold lineI
 by_cases h0 : 0 ≤ i
 ·rw [if_pos h0,List.getElem?_eq_none (by omega)]
 ·rw [if_neg h0]
set_option maxRecDepth 100000 in
set_option maxHeartbeats 2000000 in
theorem line21_any (h : SheetAt w g X R F) (i : Int) : Calls Tryz.prog 21 #[.pointer (some ⟨g,0,none⟩),.int .i64 i] w (RetVert w (lineI X i).1 (lineI X i).2):=by
 have KR : Hid (Blk (w.alloc (.cells Qa8 56)) w.heap.size 56 Qa8):=Blk.new _ _ _
 have B0 : Hid (Below w.heap.size w (w.alloc (.cells Qa8 56))):=Qaf _ _
 have HS:=lH (h.ext B0.out)
 clear h
 by_cases h0 : i < 0
 ·have N:=lH (lineI_out (X:=X) (.inl h0))
  go_enter Tryz.func21,Tryz.ntmps21
  go_upto_region 1 with (refine Qam (Qbu _) ?_)
  generalize (w.alloc (.cells Qa8 56)) = w2 at *
  generalize hgr : w.heap.size = gr at *
  go_wp2_with (first
   | (refine Qcj (buildXz _) (by rfl) ?_)
   | (refine wpList_store_row rfl 56 _ _ (by rfl) gr (encX Qbr).toArray (by rfl) (by rfl) _ _ KR.out Qas rfl (Qbj _) ?_))
  refine bodyPost_ret (Qa1 rfl _ _ gr _ (encX Qbr).toArray _ rfl (KR.out.row _) Qa2 rfl Qas) rfl ?_
  rw [N.out]
  refine ⟨rfl, ?_⟩
  rw [hgr]
  exact Qad B0.out (Nat.le_refl _) _
 ·have d0 : decide (i < 0) = false:=dqF h0
  have hi0 : 0 ≤ i:=by omega
  obtain ⟨k,rfl⟩ : ∃ k : Nat,i = (k : Int):=⟨i.toNat,by omega⟩
  have HL:=lH (Qih HS.out)
  by_cases hk : k < X.length
  ·obtain ⟨Al,cl,gr',Ao,co,h1,h2,_,_⟩:=HS.out
   obtain ⟨b,o,x,rfl,hb,hx,Rx⟩:=h2.at_ hk
   have N:=lH (lineI_some hx)
   have RX:=lH Rx
   have K1:=lH h1
   obtain ⟨n,hn⟩ : ∃ n,n = X.length:=⟨_,rfl⟩
   rw [← hn] at K1 HL hk
   replace hn:=lH hn
   clear h1 h2 hb hx Rx HS h0
   have d1 : decide ((n : Int) ≤ (k : Int)) = false:=dqF (by omega)
   have hlk : (k : Int) < (n : Int):=by omega
   go_enter Tryz.func21,Tryz.ntmps21
   go_upto_region 1 with (refine Qam (Qbu _) ?_)
   generalize (w.alloc (.cells Qa8 56)) = w2 at *
   generalize hgr : w.heap.size = gr at *
   go_wp2_with fail
   refine HL.out.mono ?_
   rintro e _ ⟨rfl,rfl⟩
   clear HL
   have y0 : w2.cell? ⟨g,0,none⟩ = some (.slice (some ⟨b,o,none⟩) n cl):=K1.out.cell 0
   go_wp2_with (first
    | (refine wpList_load_mid rfl 56 _ (by rfl) b (o + k * 9) (by rfl) _ _ RX.out Qa2 rfl Qas ?_)
    | (refine wpList_store_row rfl 56 _ _ (by rfl) gr (encX x).toArray (by rfl) (by rfl) _ _ KR.out Qas rfl (Qbj _) ?_))
   refine bodyPost_ret (Qa1 rfl _ _ gr _ (encX x).toArray _ rfl (KR.out.row _) Qa2 rfl Qas) rfl ?_
   rw [N.out]
   refine ⟨rfl, ?_⟩
   rw [hgr]
   exact Qad B0.out (Nat.le_refl _) _
  ·have N:=lH (lineI_out (X:=X) (i:=(k : Int)) (.inr (by omega)))
   obtain ⟨n,hn⟩ : ∃ n,n = X.length:=⟨_,rfl⟩
   rw [← hn] at HL hk
   replace hn:=lH hn
   clear HS h0
   have d1 : decide ((n : Int) ≤ (k : Int)) = true:=dqT (by omega)
   go_enter Tryz.func21,Tryz.ntmps21
   go_upto_region 1 with (refine Qam (Qbu _) ?_)
   generalize (w.alloc (.cells Qa8 56)) = w2 at *
   generalize hgr : w.heap.size = gr at *
   go_wp2_with fail
   refine HL.out.mono ?_
   rintro e _ ⟨rfl,rfl⟩
   clear HL
   go_wp2_with (first
    | (refine Qcj (buildXz _) (by rfl) ?_)
    | (refine wpList_store_row rfl 56 _ _ (by rfl) gr (encX Qbr).toArray (by rfl) (by rfl) _ _ KR.out Qas rfl (Qbj _) ?_))
   refine bodyPost_ret (Qa1 rfl _ _ gr _ (encX Qbr).toArray _ rfl (KR.out.row _) Qa2 rfl Qas) rfl ?_
   rw [N.out]
   refine ⟨rfl, ?_⟩
   rw [hgr]
   exact Qad B0.out (Nat.le_refl _) _
end
end Go.Proofs.YtdafiipedlglpaaGreat

/- The lines of a file: alike one another; nothing of nil: walked. -/
namespace Go.Proofs.YtdafiipedlglpaaGreat
open Go.RowKit

def Qfh (R : Nat → Nat → Bool) (i j : Nat) : Bool:=decide (i = j) || (R i j && R j i)
section
variable {w : World} {g n : Nat} {R : Nat → Nat → Bool}
set_option maxRecDepth 100000 in
set_option maxHeartbeats 2000000 in
theorem alike8_any (h : RelAt w g n R) (i j : Nat) (hi : i < n) (hn : n ≤ 65536) (hj : j ≤ 65536) : Calls Tryz.prog 46 #[.pointer (some ⟨g,0,none⟩),.int .i64 ((i : Nat) : Int),.int .i64 ((j : Nat) : Int)] w (Ret w (.bool (Qfh R i j))):=by
 have HL:=lH (Qeo h)
 have HF:=lH (Qip ((i : Nat) : Int) ((n : Nat) : Int) w)
 rw [dqT (show (0 : Int) ≤ ((i : Nat) : Int) by omega),dqT (show ((i : Nat) : Int) < ((n : Nat) : Int) by omega)] at HF
 have H1:=lH (Qim h i j (by omega))
 have H2:=lH (Qim h j i (by omega))
 rw [Qff] at H1 H2
 have E : Hid (Qfh R i j = (decide (i = j) || (R i j && R j i))):=rfl
 clear h
 by_cases hij : i = j
 ·have z : (((i : Nat) : Int) == ((j : Nat) : Int)) = true:=by rw [beq_iff_eq]; omega
  rw [dqT hij,Bool.true_or] at E
  replace hij:=lH hij
  go_enter Tryz.func46,Tryz.ntmps46
  go_wp2_with fail
  refine HL.out.mono ?_
  rintro e _ ⟨rfl,rfl⟩
  go_wp2_with fail
  refine HF.out.mono ?_
  rintro e _ ⟨rfl,rfl⟩
  go_wp2_with fail
  go_ret
  exact ⟨Qag E.out.symm,rfl⟩
 ·have z : (((i : Nat) : Int) == ((j : Nat) : Int)) = false:=by rw [beq_eq_false_iff_ne]; omega
  rw [dqF hij,Bool.false_or] at E
  replace hij:=lH hij
  cases h1 : R i j
  ·rw [h1] at H1 E
   rw [Bool.false_and] at E
   clear h1 H2
   go_enter Tryz.func46,Tryz.ntmps46
   go_wp2_with fail
   refine HL.out.mono ?_
   rintro e _ ⟨rfl,rfl⟩
   go_wp2_with fail
   refine HF.out.mono ?_
   rintro e _ ⟨rfl,rfl⟩
   go_wp2_with fail
   refine H1.out.mono ?_
   rintro e _ ⟨rfl,rfl⟩
   go_wp2_with fail
   go_ret
   exact ⟨Qag E.out.symm,rfl⟩
  ·rw [h1] at H1 E
   rw [Bool.true_and] at E
   clear h1
   generalize R j i = r at *
   go_enter Tryz.func46,Tryz.ntmps46
   go_wp2_with fail
   refine HL.out.mono ?_
   rintro e _ ⟨rfl,rfl⟩
   go_wp2_with fail
   refine HF.out.mono ?_
   rintro e _ ⟨rfl,rfl⟩
   go_wp2_with fail
   refine H1.out.mono ?_
   rintro e _ ⟨rfl,rfl⟩
   go_wp2_with fail
   refine H2.out.mono ?_
   rintro e _ ⟨rfl,rfl⟩
   go_wp2_with fail
   go_ret
   exact ⟨Qag E.out.symm,rfl⟩
end
def firmR (R : Nat → Nat → Bool) (n : Nat) (i : Int) : Bool:=decide (0 ≤ i ∧ i < (n : Int)) && (List.range n).all fun j => decide (((j : Nat) : Int) = i) || !Qfh R i.toNat j
theorem Qiq {R : Nat → Nat → Bool} {n : Nat} {i : Int} (h : i < 0 ∨ (n : Int) ≤ i) : firmR R n i = false:=by
 unfold firmR
 rw [dqF (by omega),Bool.false_and]
theorem firmR_in {R : Nat → Nat → Bool} {n k : Nat} (h : k < n) : firmR R n ((k : Nat) : Int) = (List.range n).all fun j => decide (j = k) || !Qfh R k j:=by
 unfold firmR
 rw [dqT (by omega),Bool.true_and,Int.toNat_natCast]
 congr 1
 funext j
 congr 1
 rw [Bool.eq_iff_iff,decide_eq_true_eq,decide_eq_true_eq]
 omega
theorem Qi1 {q : Nat → Bool} {k : Nat} (h : (List.range k).all q = true) (hq : q k = true) : (List.range (k + 1)).all q = true:=by
 rw [List.range_succ,List.all_append,h]; simp [hq]
theorem allR_false {q : Nat → Bool} {n k : Nat} (hk : k < n) (hq : q k = false) : (List.range n).all q = false:=by
 rw [List.all_eq_false]
 exact ⟨k,List.mem_range.2 hk,by rw [hq]; decide⟩
section
variable {w : World} {g : Nat} {X : List Qa4} {R : Nat → Nat → Bool} {F : List Nat}
set_option maxRecDepth 100000 in
set_option maxHeartbeats 4000000 in
theorem firm21_any (h : SheetAt w g X R F) (hX : X.length ≤ 65536) (i : Int) : Calls Tryz.prog 19 #[.pointer (some ⟨g,0,none⟩),.int .i64 i] w (Ret w (.bool (firmR R X.length i))):=by
 have HL:=lH (Qih h)
 by_cases h0 : i < 0
 ·have N:=lH (Qiq (R:=R) (n:=X.length) (.inl h0))
  clear h HL
  go_enter Tryz.func19,Tryz.ntmps19
  go_wp2
  go_ret
  exact ⟨Qag N.out.symm,rfl⟩
 ·have d0 : decide (i < 0) = false:=dqF h0
  obtain ⟨k,rfl⟩ : ∃ k : Nat,i = (k : Int):=⟨i.toNat,by omega⟩
  obtain ⟨Al,cl,gr,Ao,co,h1,_,h3,_⟩:=h
  have K1:=lH h1
  have HR:=lH h3
  have EO:=lH (fun h => Qiq (R:=R) (n:=X.length) (i:=((k : Nat) : Int)) (.inr h))
  have EI:=lH (fun h => firmR_in (R:=R) (n:=X.length) (k:=k) h)
  clear h1 h3 h0
  generalize X.length = n at *
  by_cases hk : k < n
  ·have N:=lH (EI.out hk)
   have d1 : decide ((n : Int) ≤ (k : Int)) = false:=dqF (by omega)
   have d1' : decide (n ≤ k) = false:=dqF (by omega)
   clear EI EO
   have y0 : w.cell? ⟨g,0,none⟩ = some (.slice Al n cl):=K1.out.cell 0
   have y1 : w.cell? ⟨g,1,none⟩ = some (.pointer (some ⟨gr,0,none⟩)):=K1.out.cell 1
   go_enter Tryz.func19,Tryz.ntmps19
   go_wp2_with fail
   refine HL.out.mono ?_
   rintro e _ ⟨rfl,rfl⟩
   clear HL
   go_wp2_with fail
   go_loopw [19] (fun v wr => ∃ j : Nat,j ≤ n ∧ v = .int .i64 j ∧ Hid ((List.range j).all (fun j => decide (j = k) || !Qfh R k j) = true) ∧ Hid (wr = w)) (fun v _ => n - (intOf v).toNat)
   case atStart => exact ⟨0,by omega,rfl,rfl,rfl⟩
   case round =>
    obtain ⟨j,hj,rfl,T,hw⟩:=hrel
    obtain rfl:=hw.out
    clear hw
    have hj0 : (0 : Int) ≤ (j : Int):=by omega
    by_cases hlt : j < n
    ·have hlj : (j : Int) < (n : Int):=by omega
     by_cases hjk : j = k
     ·subst hjk
      have z : (((j : Nat) : Int) != ((j : Nat) : Int)) = false:=by simp
      have T2:=lH (Qi1 (q:=fun i => decide (i = j) || !Qfh R j i) T.out (by rw [dqT rfl]; rfl))
      go_wp2_with fail
      go_roundw
      case rel => exact ⟨j + 1,by omega,by go_num,T2.out,trivial⟩
      case measure => simp [intOf]; omega
     ·have z : (((j : Nat) : Int) != ((k : Nat) : Int)) = true:=by rw [bne_iff_ne]; omega
      have HA:=lH (alike8_any HR.out k j hk hX (by omega))
      cases ha : Qfh R k j
      ·have T2:=lH (Qi1 (q:=fun j => decide (j = k) || !Qfh R k j) T.out (by rw [ha]; simp))
       rw [ha] at HA
       replace hjk:=lH hjk
       clear ha
       go_wp2_with fail
       refine HA.out.mono ?_
       rintro e _ ⟨rfl,rfl⟩
       go_wp2_with fail
       go_roundw
       case rel => exact ⟨j + 1,by omega,by go_num,T2.out,trivial⟩
       case measure => simp [intOf]; omega
      ·have T2:=lH (N.out.trans (allR_false hlt (by rw [ha,dqF hjk]; rfl)))
       rw [ha] at HA
       replace hjk:=lH hjk
       clear ha
       go_wp2_with fail
       refine HA.out.mono ?_
       rintro e _ ⟨rfl,rfl⟩
       go_wp2_with fail
       go_ret
       exact ⟨Qag T2.out.symm,rfl⟩
    ·have hlj : ¬ (j : Int) < (n : Int):=by omega
     have T2 : Hid (firmR R n ((k : Nat) : Int) = true):=by
      rw [Hid,N.out]
      have h1:=T.out
      rw [show j = n by omega] at h1
      exact h1
     go_wp2_with fail
     go_ret
     exact ⟨Qag T2.out.symm,rfl⟩
  ·have N:=lH (EO.out (by omega))
   have d1 : decide ((n : Int) ≤ (k : Int)) = true:=dqT (by omega)
   clear EI EO HR
   go_enter Tryz.func19,Tryz.ntmps19
   go_wp2_with fail
   refine HL.out.mono ?_
   rintro e _ ⟨rfl,rfl⟩
   go_wp2_with fail
   go_ret
   exact ⟨Qag N.out.symm,rfl⟩
end
/-! Nothing of nil -/
end Go.Proofs.YtdafiipedlglpaaGreat

/- Where a line stands: walked. -/
namespace Go.Proofs.YtdafiipedlglpaaGreat
open Go.RowKit

theorem wp_calledF {P : Program} {Q : Exit → Act → World → Prop} {K : Act → World → Prop} {a : Act} {w : World} {d : Option Tmp} {ty : TypeId} {pos : String} {after : Array Edge} {gd : Option (Nat × Bool)} {x : Operand} {xs : Array Operand} {ts : Array TypeId} {f : FuncId} {args : Array Value} {R : Ending → World → Prop}
  (hf : ∀ args w,(callFunc f args).run P w = .ok (.enter f args) w) (hx : a.eval x = .func (.func f) #[] #[]) (he : xs.map a.eval = args)
  (hc : Calls P f args w R) (h : ∀ e w',R e w' → ∃ v,e = .returned v ∧ K (a.put d v) w') : Oper.wp P ⟨d,.call { callee:=.value x,args:=xs,argTypes:=ts },ty,pos,after,gd⟩ a w K Q:=by
 have e1 : execOp a.eval ⟨d,.call { callee:=.value x,args:=xs,argTypes:=ts },ty,pos,after,gd⟩ = callFunc f args:=by
  unfold execOp resolve
  simp [hx,he,Deferred.ofValue,invoke]
 unfold Oper.wp
 rw [e1,hf]
 refine hc.mono fun e w' hr => ?_
 obtain ⟨v,rfl,hk⟩:=h e w' hr
 exact hk
set_option maxRecDepth 100000 in
set_option maxHeartbeats 1000000 in
theorem of11_any (x : Qa4) (v : VidV) (w : World) : Calls Tryz.prog 33 #[.agg (encX x).toArray,.agg (encV v).toArray] w (RetB w (.int .i64 (Qb5 (keyV x.1) (keyV v)))):=by
 have K1 : Hid (Blk ((w.alloc (.cells (encX x).toArray 56)).alloc (.cells (encV v).toArray 27)) w.heap.size 56 (encX x).toArray):=(Blk.new _ _ _).alloc _
 have K2 : Hid (Blk ((w.alloc (.cells (encX x).toArray 56)).alloc (.cells (encV v).toArray 27)) (w.heap.size + 1) 27 (encV v).toArray):=Blk.newAt (by simp) _ _
 have B0 : Hid (Below w.heap.size w ((w.alloc (.cells (encX x).toArray 56)).alloc (.cells (encV v).toArray 27))):=((Below.refl _ _).alloc (Nat.le_refl _) _).alloc (by simp) _
 go_enter Tryz.func33,Tryz.ntmps33
 go_upto_region 1 with fail
 generalize ((w.alloc (.cells (encX x).toArray 56)).alloc (.cells (encV v).toArray 27)) = w2 at *
 obtain ⟨g2,hg2⟩ : ∃ g,g = w.heap.size + 1:=⟨_,rfl⟩
 obtain ⟨g1,hg1⟩ : ∃ g,g = w.heap.size:=⟨_,rfl⟩
 rw [← hg2] at K2 ⊢
 rw [← hg1] at K1 ⊢
 replace hg1:=lH hg1
 replace hg2:=lH hg2
 have RI:=lH (vx_id (Qau K1.out))
 have HC:=lH (vcmpV x.1 v w2)
 go_wp2_with (first
  | (refine wpList_load_mid rfl 27 _ (by rfl) g1 0 (by rfl) _ _ RI.out Qaj rfl Qal ?_)
  | (refine wpList_load_row rfl 27 _ (by rfl) g2 (by rfl) _ _ _ _ K2.out Qaj rfl Qal ?_))
 refine HC.out.mono ?_
 rintro e w3 ⟨rfl,b3⟩
 have B3:=lH (B0.out.trans (b3.mono B0.out.size))
 clear b3 HC
 go_wp2_with fail
 go_ret
 exact ⟨rfl,B3.out⟩
theorem indexX21 (b o n c k : Nat) (hk : k < n) (w : World) : (Instr.indexAt 39 (.slice (some ⟨b,o,none⟩) n c) (.int .i64 ((k : Nat) : Int))).run Tryz.prog w = .ok (.pointer (some ⟨b,o + k * 9,none⟩)) w:=by
 have h0 : (0 : Int) ≤ (k : Int):=by omega
 have h1 : (k : Int) < (n : Int):=by omega
 simp [go_sem,h0,h1]
theorem lssZ (s : Int) (w : World) : (binOp .lss 3 (.int .i64 s) (.int .i64 0)).run Tryz.prog w = .ok (.bool (decide (s < 0))) w:=by simp [go_sem]
theorem lssN (i n : Nat) (w : World) : (binOp .lss 3 (.int .i64 ((i : Nat) : Int)) (.int .i64 ((n : Nat) : Int))).run Tryz.prog w = .ok (.bool (decide (i < n))) w:=by simp [go_sem]
theorem eqlZ (s : Int) (w : World) : (binOp .eql 3 (.int .i64 s) (.int .i64 0)).run Tryz.prog w = .ok (.bool (decide (s = 0))) w:=by
 by_cases h : s = 0
 ·simp [go_sem,h]
 ·simp [go_sem,h]
theorem gdLss (x y : Operand) (a b : Value) (w : World) : (eqGuard .lss 3 x y a b).run Tryz.prog w = .ok () w:=by simp [eqGuard,go_sem]
theorem gdEqlI (x y : Operand) (a b : Int) (w : World) : (eqGuard .eql 3 x y (.int .i64 a) (.int .i64 b)).run Tryz.prog w = .ok () w:=by simp [eqGuard,go_sem]
theorem sign_pos {X : List Qa4} (hr : Qfa keyX X) {h p : Nat} {y x : Qa4} (hy : X[h]? = some y) (hx : X[p]? = some x) : (Qb5 (keyV y.1) (keyV x.1) < 0 ↔ h < p) ∧ (Qb5 (keyV y.1) (keyV x.1) = 0 ↔ h = p):=by
 obtain ⟨h1,rfl⟩:=List.getElem?_eq_some_iff.1 hy
 obtain ⟨h2,rfl⟩:=List.getElem?_eq_some_iff.1 hx
 have lt : ∀ a b (ha : a < X.length) (hb : b < X.length),a < b → keyV X[a].1 < keyV X[b].1:=fun a b ha hb hab => List.pairwise_iff_getElem.1 hr a b ha hb hab
 rcases Nat.lt_trichotomy h p with c | c | c
 ·rw [Qf6 (lt h p h1 h2 c)]
  exact ⟨⟨fun _ => c,fun _ => by omega⟩,⟨fun e => by omega,fun e => by omega⟩⟩
 ·subst c
  rw [Qf8 rfl]
  exact ⟨⟨fun e => by omega,fun e => by omega⟩,⟨fun _ => rfl,fun _ => rfl⟩⟩
 ·rw [Qf7 (lt p h h2 h1 c)]
  exact ⟨⟨fun e => by omega,fun e => by omega⟩,⟨fun e => by omega,fun e => by omega⟩⟩
set_option maxRecDepth 100000 in
set_option maxHeartbeats 4000000 in
theorem search_any {w : World} {A : Option Addr} {n : Nat} {X : List Qa4} (hV : VertsAt w A n X) (hr : Qfa keyX X) (hn : n ≤ 100000) (c p : Nat) (x : Qa4) (hx : X[p]? = some x) (v : VidV) (hv : x.1 = v) :
  Calls Tryz.prog 32 #[.slice A n c,.agg (encV v).toArray,.func (.func 33) #[] #[]] w (RetB w (.tuple #[.int .i64 ((p : Nat) : Int),.bool true])):=by
 have KV : Hid (Blk (w.alloc (.cells (encV v).toArray 27)) w.heap.size 27 (encV v).toArray):=Blk.new _ _ _
 have B0 : Hid (Below w.heap.size w (w.alloc (.cells (encV v).toArray 27))):=Qaf _ _
 have VA:=lH (hV.ext B0.out)
 have hpn : Hid (p < n):=by have h1:=(List.getElem?_eq_some_iff.1 hx).1; rw [hV.len] at h1; exact h1
 have SG : Hid (∀ (h : Nat) (y : Qa4),X[h]? = some y → (Qb5 (keyV y.1) (keyV v) < 0 ↔ h < p) ∧ (Qb5 (keyV y.1) (keyV v) = 0 ↔ h = p)):=fun h y hy => by rw [← hv]; exact sign_pos hr hy hx
 have hcC : ∀ args u,(callFunc 33 args).run Tryz.prog u = .ok (.enter 33 args) u:=enters_of Tryz.func33 (by kernel_rfl) rfl
 clear hV hr hx hv
 go_enter Tryz.func32,Tryz.ntmps32
 go_upto_region 1 with fail
 generalize (w.alloc (.cells (encV v).toArray 27)) = w2 at *
 have hgv2 : Hid (w.heap.size < w2.heap.size):=KV.out.lt
 obtain ⟨gv,hgv⟩ : ∃ g,g = w.heap.size:=⟨_,rfl⟩
 rw [← hgv] at KV ⊢
 replace hgv:=lH hgv
 go_wp2_with fail
 go_loopw [9,10] (fun iv jv wr => ∃ i j : Nat,j ≤ n ∧ iv = .int .i64 i ∧ jv = .int .i64 j ∧ Hid (i ≤ p ∧ p ≤ j) ∧ Hid (Below w2.heap.size w2 wr)) (fun iv jv _ => (intOf jv).toNat - (intOf iv).toNat)
 case atStart => exact ⟨0,n,Nat.le_refl _,rfl,rfl,⟨Nat.zero_le _,Nat.le_of_lt hpn.out⟩,Below.refl _ _⟩
 case round =>
  obtain ⟨i,j,hj,rfl,rfl,hp,B⟩:=hrel
  obtain ⟨wi,rfl⟩ : ∃ wx,wx = wr:=⟨_,rfl⟩
  have hi0 : (0 : Int) ≤ (i : Int):=by omega
  have hj0 : (0 : Int) ≤ (j : Int):=by omega
  have KV5:=lH (KV.out.ext B.out)
  by_cases hlt : i < j
  ·have hlk : (i : Int) < (j : Int):=by omega
   have hw1 : IntKind.i64.wrap ((i : Int) + (j : Int)) = (i : Int) + (j : Int):=by rw [IntKind.wrap_i64]; omega
   have hw2 : IntKind.u64.wrap ((i : Int) + (j : Int)) = (i : Int) + (j : Int):=by rw [IntKind.wrap_u64]; omega
   go_upto_region 5 with fail
   rw [show ((i : Int) + (j : Int)) / 2 = (((i + j) / 2 : Nat) : Int) by omega]
   have hm1 : i ≤ (i + j) / 2:=by omega
   have hm2 : (i + j) / 2 < j:=by omega
   generalize (i + j) / 2 = m at *
   obtain ⟨b,o,y,rfl,hb,hy,R⟩:=(VA.out.ext B.out).at_ (k:=m) (by omega)
   have RX:=lH R
   have hbl:=lH hb
   have HC:=lH (fun u => of11_any y v u)
   have HIX:=lH (fun u => indexX21 b o n c m (by omega) u)
   have hsg:=(SG.out m y hy).1
   clear R hb hy
   generalize Qb5 (keyV y.1) (keyV v) = sg at *
   by_cases hmp : m < p
   ·have CM : Hid (∀ u : World,(binOp .lss 3 (.int .i64 sg) (.int .i64 0)).run Tryz.prog u = .ok (.bool true) u):=fun u => by rw [lssZ,dqT (hsg.2 hmp)]
    clear hsg
    refine wp_region_held (S:=fun w' => Below wi.heap.size wi w') Qav ?_
    change wpAnyH _ _ _ _ _ _ _ _ wi.drew
    have B5 : Hid (Below wi.heap.size wi wi.drew):=(Below.refl _ _).drew
    generalize wi.drew = w5 at B5 ⊢
    simp only [List.size_toArray,List.length_cons,List.length_nil]
    refine Qai 0 24 (.func (.func 33) #[] #[]) rfl (fun _ _ => Qax (v:=.func (.func 33) #[] #[]) rfl) B5.out ?_
    simp only [Act.put,sqA,sq0,sqS]
    refine Qai 1 25 (.slice (some ⟨b,o,none⟩) n c) rfl (fun _ _ => Qax (v:=.slice (some ⟨b,o,none⟩) n c) rfl) B5.out ?_
    simp only [Act.put,sqA,sq0,sqS]
    refine Qai 2 26 (.int .i64 ((m : Nat) : Int)) rfl (fun _ _ => Qax (v:=.int .i64 ((m : Nat) : Int)) rfl) B5.out ?_
    simp only [Act.put,sqA,sq0,sqS]
    refine Qai 3 27 (.pointer (some ⟨b,o + m * 9,none⟩)) rfl (fun w' _ => Qc3 rfl rfl (HIX.out w')) B5.out ?_
    simp only [Act.put,sqA,sq0,sqS]
    refine Qai 4 28 (.agg (encX y).toArray) rfl (fun w' h => Qb3 rfl (Qac RX.out h hbl.out) Qa2 rfl Qas) B5.out ?_
    simp only [Act.put,sqA,sq0,sqS]
    refine Qai 5 29 (.agg (encV v).toArray) rfl (fun w' h => Qb3 rfl (Qau (KV5.out.ext h)) Qaj rfl Qal) B5.out ?_
    simp only [Act.put,sqA,sq0,sqS]
    refine oneH 6 ?_
    refine Qae rfl rfl (wp_calledF (args:=#[.agg (encX y).toArray,.agg (encV v).toArray]) hcC rfl (by simp only [sqM,sqC,sqN]; rfl) (HC.out w5) ?_)
    rintro e w_1 ⟨rfl,h_2⟩
    refine ⟨_,rfl,Qaa B5.out h_2, ?_⟩
    simp only [Act.put,sqA,sq0,sqS]
    have B_3:=lH (Qaa B5.out h_2)
    clear B5
    clear h_2
    refine Qai 7 31 (.bool true) rfl (fun w' _ => exBin rfl rfl (gdLss _ _ _ _ _) (CM.out w')) B_3.out ?_
    simp only [Act.put,sqA,sq0,sqS]
    refine wpAnyH_done (by kernel_rfl) ?_ _
    have BF:=lH (B.out.trans (B_3.out.mono B.out.size))
    clear B_3
    go_wp2_with fail
    go_roundw
    case rel => exact ⟨m + 1,j,hj,by go_num,rfl,⟨by omega,hp.out.2⟩,BF.out⟩
    case measure => simp [intOf]; omega
   ·have CM : Hid (∀ u : World,(binOp .lss 3 (.int .i64 sg) (.int .i64 0)).run Tryz.prog u = .ok (.bool false) u):=fun u => by rw [lssZ,dqF (fun e => hmp (hsg.1 e))]
    clear hsg
    refine wp_region_held (S:=fun w' => Below wi.heap.size wi w') Qav ?_
    change wpAnyH _ _ _ _ _ _ _ _ wi.drew
    have B5 : Hid (Below wi.heap.size wi wi.drew):=(Below.refl _ _).drew
    generalize wi.drew = w5 at B5 ⊢
    simp only [List.size_toArray,List.length_cons,List.length_nil]
    refine Qai 0 24 (.func (.func 33) #[] #[]) rfl (fun _ _ => Qax (v:=.func (.func 33) #[] #[]) rfl) B5.out ?_
    simp only [Act.put,sqA,sq0,sqS]
    refine Qai 1 25 (.slice (some ⟨b,o,none⟩) n c) rfl (fun _ _ => Qax (v:=.slice (some ⟨b,o,none⟩) n c) rfl) B5.out ?_
    simp only [Act.put,sqA,sq0,sqS]
    refine Qai 2 26 (.int .i64 ((m : Nat) : Int)) rfl (fun _ _ => Qax (v:=.int .i64 ((m : Nat) : Int)) rfl) B5.out ?_
    simp only [Act.put,sqA,sq0,sqS]
    refine Qai 3 27 (.pointer (some ⟨b,o + m * 9,none⟩)) rfl (fun w' _ => Qc3 rfl rfl (HIX.out w')) B5.out ?_
    simp only [Act.put,sqA,sq0,sqS]
    refine Qai 4 28 (.agg (encX y).toArray) rfl (fun w' h => Qb3 rfl (Qac RX.out h hbl.out) Qa2 rfl Qas) B5.out ?_
    simp only [Act.put,sqA,sq0,sqS]
    refine Qai 5 29 (.agg (encV v).toArray) rfl (fun w' h => Qb3 rfl (Qau (KV5.out.ext h)) Qaj rfl Qal) B5.out ?_
    simp only [Act.put,sqA,sq0,sqS]
    refine oneH 6 ?_
    refine Qae rfl rfl (wp_calledF (args:=#[.agg (encX y).toArray,.agg (encV v).toArray]) hcC rfl (by simp only [sqM,sqC,sqN]; rfl) (HC.out w5) ?_)
    rintro e w_1 ⟨rfl,h_2⟩
    refine ⟨_,rfl,Qaa B5.out h_2, ?_⟩
    simp only [Act.put,sqA,sq0,sqS]
    have B_3:=lH (Qaa B5.out h_2)
    clear B5
    clear h_2
    refine Qai 7 31 (.bool false) rfl (fun w' _ => exBin rfl rfl (gdLss _ _ _ _ _) (CM.out w')) B_3.out ?_
    simp only [Act.put,sqA,sq0,sqS]
    refine wpAnyH_done (by kernel_rfl) ?_ _
    have BF:=lH (B.out.trans (B_3.out.mono B.out.size))
    clear B_3
    go_wp2_with fail
    go_roundw
    case rel => exact ⟨i,m,by omega,rfl,rfl,⟨hp.out.1,by omega⟩,BF.out⟩
    case measure => simp [intOf]; omega
  ·have hlk : ¬ (i : Int) < (j : Int):=by omega
   have hip : i = p:=by have:=hp.out; omega
   subst hip
   obtain ⟨b,o,y,rfl,hb,hy,R⟩:=(VA.out.ext B.out).at_ hpn.out
   have RX:=lH R
   have hbl:=lH hb
   have HC : Hid (∀ u,Calls Tryz.prog 33 #[.agg (encX y).toArray,.agg (encV v).toArray] u (RetB u (.int .i64 0))):=fun u => by
    rw [← (SG.out i y hy).2.2 rfl]; exact of11_any y v u
   have HIX:=lH (fun u => indexX21 b o n c i hpn.out u)
   have CM : Hid (∀ u : World,(binOp .eql 3 (.int .i64 0) (.int .i64 0)).run Tryz.prog u = .ok (.bool true) u):=fun u => by rw [eqlZ]; rfl
   have CN : Hid (∀ u : World,(binOp .lss 3 (.int .i64 ((i : Nat) : Int)) (.int .i64 ((n : Nat) : Int))).run Tryz.prog u = .ok (.bool true) u):=fun u => by rw [lssN,dqT hpn.out]
   clear R hb hy
   go_upto_region 8 with fail
   refine wp_region_held (S:=fun w' => Below wi.heap.size wi w') Qav ?_
   change wpAnyH _ _ _ _ _ _ _ _ wi.drew
   have B5 : Hid (Below wi.heap.size wi wi.drew):=(Below.refl _ _).drew
   generalize wi.drew = w5 at B5 ⊢
   simp only [List.size_toArray,List.length_cons,List.length_nil]
   refine Qai 0 35 (.int .i64 ((i : Nat) : Int)) rfl (fun _ _ => Qax (v:=.int .i64 ((i : Nat) : Int)) rfl) B5.out ?_
   simp only [Act.put,sqA,sq0,sqS]
   refine Qai 1 36 (.int .i64 ((i : Nat) : Int)) rfl (fun _ _ => Qax (v:=.int .i64 ((i : Nat) : Int)) rfl) B5.out ?_
   simp only [Act.put,sqA,sq0,sqS]
   refine Qai 2 37 (.int .i64 ((n : Nat) : Int)) rfl (fun _ _ => Qax (v:=.int .i64 ((n : Nat) : Int)) rfl) B5.out ?_
   simp only [Act.put,sqA,sq0,sqS]
   refine Qai 3 38 (.bool true) rfl (fun w' _ => exBin rfl rfl (gdLss _ _ _ _ _) (CN.out w')) B5.out ?_
   simp only [Act.put,sqA,sq0,sqS]
   refine Qai 4 39 (.bool true) rfl (fun _ _ => Qax (v:=.bool true) rfl) B5.out ?_
   simp only [Act.put,sqA,sq0,sqS]
   refine Qai 5 40 (.func (.func 33) #[] #[]) rfl (fun _ _ => Qax (v:=.func (.func 33) #[] #[]) rfl) B5.out ?_
   simp only [Act.put,sqA,sq0,sqS]
   refine Qai 6 41 (.slice (some ⟨b,o,none⟩) n c) rfl (fun _ _ => Qax (v:=.slice (some ⟨b,o,none⟩) n c) rfl) B5.out ?_
   simp only [Act.put,sqA,sq0,sqS]
   refine Qai 7 42 (.int .i64 ((i : Nat) : Int)) rfl (fun _ _ => Qax (v:=.int .i64 ((i : Nat) : Int)) rfl) B5.out ?_
   simp only [Act.put,sqA,sq0,sqS]
   refine Qai 8 43 (.pointer (some ⟨b,o + i * 9,none⟩)) rfl (fun w' _ => Qc3 rfl rfl (HIX.out w')) B5.out ?_
   simp only [Act.put,sqA,sq0,sqS]
   refine Qai 9 44 (.agg (encX y).toArray) rfl (fun w' h => Qb3 rfl (Qac RX.out h hbl.out) Qa2 rfl Qas) B5.out ?_
   simp only [Act.put,sqA,sq0,sqS]
   refine Qai 10 45 (.agg (encV v).toArray) rfl (fun w' h => Qb3 rfl (Qau (KV5.out.ext h)) Qaj rfl Qal) B5.out ?_
   simp only [Act.put,sqA,sq0,sqS]
   refine oneH 11 ?_
   refine Qae rfl rfl (wp_calledF (args:=#[.agg (encX y).toArray,.agg (encV v).toArray]) hcC rfl (by simp only [sqM,sqC,sqN]; rfl) (HC.out w5) ?_)
   rintro e w_1 ⟨rfl,h_2⟩
   refine ⟨_,rfl,Qaa B5.out h_2, ?_⟩
   simp only [Act.put,sqA,sq0,sqS]
   have B_3:=lH (Qaa B5.out h_2)
   clear B5
   clear h_2
   refine Qai 12 47 (.bool true) rfl (fun w' _ => exBin rfl rfl (gdEqlI _ _ _ _ _) (CM.out w')) B_3.out ?_
   simp only [Act.put,sqA,sq0,sqS]
   refine Qai 13 48 (.bool true) rfl (fun _ _ => exPickT (v:=.bool true) rfl rfl) B_3.out ?_
   simp only [Act.put,sqA,sq0,sqS]
   refine Qai 14 6 (.int .i64 ((i : Nat) : Int)) rfl (fun _ _ => Qby (v:=.int .i64 ((i : Nat) : Int)) rfl) B_3.out ?_
   simp only [Act.put,sqA,sq0,sqS]
   refine Qai 15 7 (.bool true) rfl (fun _ _ => Qby (v:=.bool true) rfl) B_3.out ?_
   simp only [Act.put,sqA,sq0,sqS]
   refine wpAnyH_done (by kernel_rfl) ?_ _
   have BF:=lH (B0.out.trans ((B.out.trans (B_3.out.mono B.out.size)).mono B0.out.size))
   clear B_3
   go_wp2_with fail
   go_ret2
   exact ⟨rfl,BF.out⟩
end Go.Proofs.YtdafiipedlglpaaGreat

/- The lines of a file: walked. -/
namespace Go.Proofs.YtdafiipedlglpaaGreat
open Go.RowKit

theorem wp_calledC {P : Program} {Q : Exit → Act → World → Prop} {K : Act → World → Prop} {a : Act} {w : World} {d : Option Tmp} {ty : TypeId} {pos : String} {after : Array Edge} {gd : Option (Nat × Bool)} {x : Operand} {xs : Array Operand} {ts : Array TypeId} {f : FuncId} {args caps : Array Value} {R : Ending → World → Prop}
  (hf : ∀ args w,(callFunc f args).run P w = .ok (.enter f args) w) (hx : a.eval x = .func (.func f) #[] caps) (he : xs.map a.eval = args)
  (hc : Calls P f (args ++ caps) w R) (h : ∀ e w',R e w' → ∃ v,e = .returned v ∧ K (a.put d v) w') : Oper.wp P ⟨d,.call { callee:=.value x,args:=xs,argTypes:=ts },ty,pos,after,gd⟩ a w K Q:=by
 have e1 : execOp a.eval ⟨d,.call { callee:=.value x,args:=xs,argTypes:=ts },ty,pos,after,gd⟩ = callFunc f (args ++ caps):=by
  unfold execOp resolve
  simp [hx,he,Deferred.ofValue,invoke]
 unfold Oper.wp
 rw [e1,hf]
 refine hc.mono fun e w' hr => ?_
 obtain ⟨v,rfl,hk⟩:=h e w' hr
 exact hk
theorem loadPS (b : Nat) (w : World) (v : Option Addr) (h : w.cell? ⟨b,0,none⟩ = some (.pointer v)) : (Instr.loadAt 37 (.pointer (some ⟨b,0,none⟩))).run Tryz.prog w = .ok (.pointer v) w:=by simp [go_sem,h]
theorem loadXs (b o : Nat) (w : World) (A : Option Addr) (n c : Nat) (h : w.cell? ⟨b,o,none⟩ = some (.slice A n c)) : (Instr.loadAt 39 (.pointer (some ⟨b,o,none⟩))).run Tryz.prog w = .ok (.slice A n c) w:=by simp [go_sem,h]
theorem fieldSh0 (g : Nat) (w : World) : (Instr.fieldAt 79 (.pointer (some ⟨g,0,none⟩)) 0).run Tryz.prog w = .ok (.pointer (some ⟨g,0,none⟩)) w:=by simp [go_sem]
theorem below_cell21 {w w' : World} {p : Addr} (h : Below w.heap.size w w') (hp : p.block < w.heap.size) : w'.cell? p = w.cell? p:=h.cell hp
set_option maxRecDepth 100000 in
set_option maxHeartbeats 2000000 in
theorem of1_any' {w : World} {gb n : Nat} {X : List Qa4} (h : SeesL w gb X) (hn : X.length = n) (hr : Qfa keyX X) (hm : n ≤ 100000) (p : Nat) (x : Qa4) (hx : X[p]? = some x) (v : VidV) (hv : x.1 = v) (hgb : gb < w.heap.size) :
  Calls Tryz.prog 31 #[.agg (encV v).toArray,.pointer (some ⟨gb,0,none⟩)] w (RetB w (.int .i64 ((p : Nat) : Int))):=by
 subst hn
 obtain ⟨gs,Al,cl,r,q,y1,hK,hV⟩:=h.ex
 have KV : Hid (Blk (w.alloc (.cells (encV v).toArray 27)) w.heap.size 27 (encV v).toArray):=Blk.new _ _ _
 have B0 : Hid (Below w.heap.size w (w.alloc (.cells (encV v).toArray 27))):=Qaf _ _
 have y1 : (w.alloc (.cells (encV v).toArray 27)).cell? ⟨gb,0,none⟩ = some (.pointer (some ⟨gs,0,none⟩)):=(B0.out.cell (p:=⟨gb,0,none⟩) hgb).trans y1
 have KS:=lH (hK.ext B0.out)
 have hgb2 : Hid (gb < (w.alloc (.cells (encV v).toArray 27)).heap.size):=Nat.lt_of_lt_of_le hgb B0.out.size
 have HB:=lH (fun (u : World) (hu : Below (w.alloc (.cells (encV v).toArray 27)).heap.size (w.alloc (.cells (encV v).toArray 27)) u) => search_any ((hV.ext B0.out).ext hu) hr hm cl p x hx v hv)
 have hcB : ∀ args u,(callFunc 32 args).run Tryz.prog u = .ok (.enter 32 args) u:=enters_of Tryz.func32 (by kernel_rfl) rfl
 clear hK hV hr hx hv h
 generalize X.length = n at *
 go_enter Tryz.func31,Tryz.ntmps31
 go_upto_region 1 with fail
 generalize (w.alloc (.cells (encV v).toArray 27)) = w2 at *
 obtain ⟨gv,hgv⟩ : ∃ g,g = w.heap.size:=⟨_,rfl⟩
 rw [← hgv] at KV ⊢
 replace hgv:=lH hgv
 refine wp_region_held (S:=fun w' => Below w2.heap.size w2 w') Qav ?_
 change wpAnyH _ _ _ _ _ _ _ _ w2.drew
 have B5 : Hid (Below w2.heap.size w2 w2.drew):=(Below.refl _ _).drew
 generalize w2.drew = w5 at B5 ⊢
 simp only [List.size_toArray,List.length_cons,List.length_nil]
 refine Qai 0 7 (.pointer (some ⟨gs,0,none⟩)) rfl (fun w' h => Qcw rfl (loadPS gb w' _ ((below_cell21 h hgb2.out).trans y1))) B5.out ?_
 simp only [Act.put,sqA,sq0,sqS]
 refine Qai 1 8 (.pointer (some ⟨gs,0,none⟩)) rfl (fun _ _ => Qiu rfl) B5.out ?_
 simp only [Act.put,sqA,sq0,sqS]
 refine Qai 2 9 (.pointer (some ⟨gs,0,none⟩)) rfl (fun w' _ => Qbp rfl (fieldSh0 gs w')) B5.out ?_
 simp only [Act.put,sqA,sq0,sqS]
 refine Qai 3 10 (.slice Al n cl) rfl (fun w' h => Qcw rfl (loadXs gs 0 w' _ _ _ ((KS.out.ext h).cell 0))) B5.out ?_
 simp only [Act.put,sqA,sq0,sqS]
 refine Qai 4 11 (.agg (encV v).toArray) rfl (fun w' h => Qb3 rfl (Qau (KV.out.ext h)) Qaj rfl Qal) B5.out ?_
 simp only [Act.put,sqA,sq0,sqS]
 refine oneH 5 ?_
 refine Qae rfl rfl (Qao (args:=#[.slice Al n cl,.agg (encV v).toArray,.func (.func 33) #[] #[]]) hcB (by simp only [sqM,sqC,sqN]; rfl) (HB.out w5 B5.out) ?_)
 rintro e w_1 ⟨rfl,h_2⟩
 refine ⟨_,rfl,Qaa B5.out h_2, ?_⟩
 simp only [Act.put,sqA,sq0,sqS]
 have B_3:=lH (Qaa B5.out h_2)
 clear B5
 clear h_2
 refine Qai 6 6 (.tuple #[.int .i64 ((p : Nat) : Int),.bool true]) rfl (fun _ _ => Qax (v:=.tuple #[.int .i64 ((p : Nat) : Int),.bool true]) rfl) B_3.out ?_
 simp only [Act.put,sqA,sq0,sqS]
 refine Qai 7 13 (.int .i64 ((p : Nat) : Int)) rfl (fun _ _ => Qa3 (v:=.int .i64 ((p : Nat) : Int)) rfl rfl) B_3.out ?_
 simp only [Act.put,sqA,sq0,sqS]
 refine Qai 8 14 (.bool true) rfl (fun _ _ => Qa3 (v:=.bool true) rfl rfl) B_3.out ?_
 simp only [Act.put,sqA,sq0,sqS]
 refine Qai 9 4 (.int .i64 ((p : Nat) : Int)) rfl (fun _ _ => Qby (v:=.int .i64 ((p : Nat) : Int)) rfl) B_3.out ?_
 simp only [Act.put,sqA,sq0,sqS]
 refine Qai 10 5 (.bool true) rfl (fun _ _ => Qby (v:=.bool true) rfl) B_3.out ?_
 simp only [Act.put,sqA,sq0,sqS]
 refine wpAnyH_done (by kernel_rfl) ?_ _
 have BF:=lH (B0.out.trans (B_3.out.mono B0.out.size))
 clear B_3
 go_wp2_with fail
 go_ret
 exact ⟨rfl,BF.out⟩
end Go.Proofs.YtdafiipedlglpaaGreat

/- The lines of a file: walked. -/
namespace Go.Proofs.YtdafiipedlglpaaGreat
open Go.RowKit

theorem buildSh (A : Option Addr) (n c : Nat) (w : World) : (Instr.build 79 #[(0,.slice A n c)]).run Tryz.prog w = .ok (.agg #[.slice A n c,.pointer none,.slice none 0 0]) w:=by kernel_rfl
theorem allocPS (w : World) : (Instr.alloc 37 true (.tuple #[])).run Tryz.prog w = .ok (.pointer (some ⟨w.heap.size,0,none⟩)) (w.alloc (.cells #[.pointer none] 37)):=by kernel_rfl
theorem loadRl (b o : Nat) (w : World) (v : Option Addr) (h : w.cell? ⟨b,o,none⟩ = some (.pointer v)) : (Instr.loadAt 47 (.pointer (some ⟨b,o,none⟩))).run Tryz.prog w = .ok (.pointer v) w:=by simp [go_sem,h]
theorem storeRl (b o : Nat) (w : World) (v : Option Addr) (u : Value) (h : w.cell? ⟨b,o,none⟩ = some u) (hf : w.frozen? ⟨b,o,none⟩ = false) : (Instr.storeAt 47 (.pointer (some ⟨b,o,none⟩)) (.pointer v)).run Tryz.prog w = .ok () (w.setCell ⟨b,o,none⟩ (.pointer v)):=by simp [go_sem,h,hf]
theorem storeNs (b o : Nat) (w : World) (A : Option Addr) (n c : Nat) (u : Value) (h : w.cell? ⟨b,o,none⟩ = some u) (hf : w.frozen? ⟨b,o,none⟩ = false) : (Instr.storeAt 50 (.pointer (some ⟨b,o,none⟩)) (.slice A n c)).run Tryz.prog w = .ok () (w.setCell ⟨b,o,none⟩ (.slice A n c)):=by simp [go_sem,h,hf]
theorem fieldSh1 (g : Nat) (w : World) : (Instr.fieldAt 79 (.pointer (some ⟨g,0,none⟩)) 1).run Tryz.prog w = .ok (.pointer (some ⟨g,1,none⟩)) w:=by simp [go_sem]
theorem fieldSh2 (g : Nat) (w : World) : (Instr.fieldAt 79 (.pointer (some ⟨g,0,none⟩)) 2).run Tryz.prog w = .ok (.pointer (some ⟨g,2,none⟩)) w:=by simp [go_sem]
theorem index1E21 (g : Nat) (w : World) : (Instr.indexAt 88 (.pointer (some ⟨g,0,none⟩)) (.int .i64 1)).run Tryz.prog w = .ok (.pointer (some ⟨g,3,none⟩)) w:=by simp [go_sem]
theorem e_snd' {w : World} {b : Nat} {x : Qbv} (h : w.rangeAt b 0 (encE x)) : w.rangeAt b 3 (encV x.2):=by
 have:=e_snd h
 rwa [Nat.zero_add] at this
theorem buildS2 (a b : Nat) (w : World) : (Instr.build 89 #[(0,.int .i64 ((a : Nat) : Int)),(1,.int .i64 ((b : Nat) : Int))]).run Tryz.prog w = .ok (.agg (encS (a,b)).toArray) w:=by kernel_rfl
theorem RelAt.keepS {w w' : World} {g n : Nat} {R : Nat → Nat → Bool} {F : Nat → Prop} (h : RelAt w g n R) (hk : Kept F w w') (hF : ∀ k,F k → ∃ cur,w.heap[k]? = some (.cells cur 79 (0,0))) : RelAt w' g n R:=by
 have nb : ∀ {k : Nat} {t : TypeId} {cs : Array Value},Blk w k t cs → t ≠ 79 → ¬ F k:=fun hb hne hf => by
  obtain ⟨cur,hc⟩:=hF _ hf
  unfold Blk at hb
  rw [hb] at hc
  injection hc with hc
  injection hc with _ ht _
  exact hne ht
 have nm : ∀ {t : TypeId} {k : Nat} {l : List (Value × Value)},MapIs Tryz.prog t w k l → ¬ F k:=fun hm hf => by
  obtain ⟨cur,hc⟩:=hF _ hf
  obtain ⟨es,clock,hb,_⟩:=hm
  rw [hb] at hc; cases hc
 have no : ∀ {base size n k : Nat} {e : TypeId} {v : Value} {xs : List Value},w.ownsRow base e size v n xs → v.ownBlock = some k → e ≠ 79 → ¬ F k:=fun ho hv hne hf => by
  obtain ⟨cur,hc⟩:=Qel ho hv
  obtain ⟨cur2,hc2⟩:=hF _ hf
  rw [hc] at hc2
  injection hc2 with hc2
  injection hc2 with _ ht _
  exact hne ht
 obtain ⟨k0,gm8,T,k1,k2,k3⟩:=h
 exact ⟨k0,gm8,T,k1.keep (hk.block _ k1.lt (nb k1 (by decide))),⟨k2.map.keep (hk.block _ k2.map.lt (nm k2.map)),fun r hr => (k2.row r hr).keep (hk.block _ (k2.row r hr).lt.1 (nb (k2.row r hr).blk (by decide))) (hk.block _ (k2.row r hr).lt.2 (no (k2.row r hr).own rfl (by decide))),k2.cl,k2.lt,k2.ap⟩,k3⟩
def RetSheet (w : World) (X : List Qa4) (S : List (Nat × Nat)) (e : Ending) (w' : World) : Prop:=
 ∃ gs R,e = .returned (.pointer (some ⟨gs,0,none⟩)) ∧ SheetAt w' gs X R (ordR R X.length) ∧ (∀ a b,R a b = true ↔ ViaL S a b) ∧ TransR X.length R ∧ Below w.heap.size w w'
theorem transR_of {n : Nat} {S : List (Nat × Nat)} {R : Nat → Nat → Bool} (hS : ∀ x ∈ S,x.1 < n ∧ x.2 < n) (hR : ∀ a b,R a b = true ↔ ViaL S a b) : TransR n R:=
 ⟨fun h1 h2 => (hR _ _).2 (((hR _ _).1 h1).trans trivial ((hR _ _).1 h2)),fun h => via_lt hS ((hR _ _).1 h)⟩
theorem lines_few {L : List PatV} (hG : GrOk L) (hf : L.length ≤ 300) (v : VidV) : (Qdf L v).length ≤ 60000 ∧ (Qef L v).length ≤ 60000:=by
 have h200 : ∀ p ∈ L,p.2.2.length ≤ 200:=fun p hp => hG.few hp
 have h1:=Qej (key:=keyV) (Qdr L)
 have h2:=Qil L h200
 have h3:=Qej (key:=keyE) (Qbc L)
 have h4:=Qhr L h200
 have h5 : L.length * 200 ≤ 300 * 200:=Nat.mul_le_mul_right _ hf
 have h6 : (Qdf L v).length ≤ (Qcz L).length:=List.length_filter_le _ _
 have h7 : (Qef L v).length ≤ (Qd4 L).length:=List.length_filter_le _ _
 have h8 : (Qcz L).length = (idsL L).length:=by unfold Qcz; rw [List.length_map]
 unfold idsL at h8
 unfold Qd4 at h7
 omega
set_option maxRecDepth 100000 in
set_option maxHeartbeats 8000000 in
theorem lof_gen {w : World} {gp : Option Addr} {v : VidV} {X : List Qa4} {Y : List Qbv} {S : List (Nat × Nat)}
  (HOf : ∀ u,Below w.heap.size w u → Calls Tryz.prog 30 #[.pointer gp,.agg (encV v).toArray,.int .u8 3] u (OwnedRet u 56 9 X.length (X.flatMap encX)))
  (HSt : ∀ u,Below w.heap.size w u → Calls Tryz.prog 35 #[.pointer gp,.agg (encV v).toArray] u (OwnedRet u 88 6 Y.length (Y.flatMap encE)))
  (hlx : X.length ≤ 60000) (hle : Y.length ≤ 60000) (hri : Qfa keyX X) (hi : ∀ e ∈ Y,(∃ x ∈ X,x.1 = e.1) ∧ ∃ y ∈ X,y.1 = e.2) (hS : S = Y.map fun e => (posL X e.1,posL X e.2)) (hSn : ∀ x ∈ S,x.1 < X.length ∧ x.2 < X.length) :
  Calls Tryz.prog 9 #[.pointer gp,.agg (encV v).toArray] w (RetSheet w X S):=by
 have hrise:=lH hri
 have hSN:=lH hSn
 have hin:=lH hi
 have ES:=lH hS
 have KV : Hid (Blk (w.alloc (.cells (encV v).toArray 27)) w.heap.size 27 (encV v).toArray):=Blk.new _ _ _
 have B0 : Hid (Below w.heap.size w (w.alloc (.cells (encV v).toArray 27))):=Qaf _ _
 have HOF:=lH HOf
 have HST:=lH HSt
 clear HOf HSt hS hSn hi hri
 go_enter Tryz.func9,Tryz.ntmps9
 go_upto_region 1 with fail
 generalize (w.alloc (.cells (encV v).toArray 27)) = w2 at *
 have hgv2 : Hid (w.heap.size < w2.heap.size):=KV.out.lt
 obtain ⟨gv,hgv⟩ : ∃ g,g = w.heap.size:=⟨_,rfl⟩
 rw [← hgv] at KV ⊢
 replace hgv:=lH hgv
 have HO:=lH (HOF.out w2 B0.out)
 obtain ⟨n,hn⟩ : ∃ n,n = X.length:=⟨_,rfl⟩
 rw [← hn] at HO hlx
 replace hn:=lH hn
 go_wp2_with (refine wpList_load_row rfl 27 _ (by rfl) gv (by rfl) _ _ _ _ KV.out Qaj rfl Qal ?_)
 refine HO.out.mono ?_
 rintro e w3 ⟨_,rfl,o3,b3⟩
 obtain ⟨Al,cl,rfl,_,v3⟩:=VertsAt.of_own o3 hn.out.symm
 have KV3:=lH (KV.out.ext b3)
 have B3:=lH (B0.out.trans (b3.mono B0.out.size))
 have VA3:=lH v3
 clear o3 b3 v3 HO KV B0 HOF
 have KS : Hid (Blk ((w3.alloc (.cells #[.slice Al n cl,.pointer none,.slice none 0 0] 79)).alloc (.cells #[.pointer (some ⟨w3.heap.size,0,none⟩)] 37)) w3.heap.size 79 #[.slice Al n cl,.pointer none,.slice none 0 0]):=(Blk.new _ _ _).alloc _
 have KB : Hid (Blk ((w3.alloc (.cells #[.slice Al n cl,.pointer none,.slice none 0 0] 79)).alloc (.cells #[.pointer (some ⟨w3.heap.size,0,none⟩)] 37)) (w3.heap.size + 1) 37 #[.pointer (some ⟨w3.heap.size,0,none⟩)]):=Blk.newAt (by simp) _ _
 have BN : Hid (Below w3.heap.size w3 ((w3.alloc (.cells #[.slice Al n cl,.pointer none,.slice none 0 0] 79)).alloc (.cells #[.pointer (some ⟨w3.heap.size,0,none⟩)] 37))):=((Below.refl _ _).alloc (Nat.le_refl _) _).alloc (by simp) _
 go_upto_region 2 with (first
  | (refine Qcj (buildSh Al n cl _) (by rfl) ?_)
  | (refine Qam (allocPS _) ?_))
 have KV4:=lH (KV3.out.ext BN.out)
 have B4:=lH (B3.out.trans (BN.out.mono B3.out.size))
 have hgs4 : Hid (w3.heap.size < (((w3.alloc (.cells #[.slice Al n cl,.pointer none,.slice none 0 0] 79)).alloc (.cells #[.pointer (some ⟨w3.heap.size,0,none⟩)] 37))).heap.size):=KS.out.lt
 generalize ((w3.alloc (.cells #[.slice Al n cl,.pointer none,.slice none 0 0] 79)).alloc (.cells #[.pointer (some ⟨w3.heap.size,0,none⟩)] 37)) = w4 at *
 obtain ⟨gb,hgb⟩ : ∃ g,g = w3.heap.size + 1:=⟨_,rfl⟩
 obtain ⟨gs,hgs⟩ : ∃ g,g = w3.heap.size:=⟨_,rfl⟩
 rw [← hgs] at KS KB hgs4 ⊢
 rw [show gs + 1 = gb by rw [hgs,hgb]] at KB ⊢
 have hwg : Hid (w.heap.size ≤ gs):=by rw [Hid,hgs]; exact B3.out.size
 have BN3 : Hid (Below gs w3 w4):=by rw [hgs]; exact BN
 replace hgb:=lH hgb
 replace hgs:=lH hgs
 clear KV3 B3 BN
 have HS:=lH (HST.out w4 B4.out)
 obtain ⟨m,hm⟩ : ∃ m,m = Y.length:=⟨_,rfl⟩
 rw [← hm] at HS hle
 replace hm:=lH hm
 go_wp2_with (refine wpList_load_row rfl 27 _ (by rfl) gv (by rfl) _ _ _ _ KV4.out Qaj rfl Qal ?_)
 refine HS.out.mono ?_
 rintro e w5 ⟨_,rfl,o5,b5⟩
 obtain ⟨Ae,ce,rfl,_,v5⟩:=EdgesAt.of_own o5 hm.out.symm
 have EA:=lH v5
 have KS5:=lH (KS.out.ext b5)
 have KB5:=lH (KB.out.ext b5)
 have B5:=lH (B4.out.trans (b5.mono B4.out.size))
 have BG5:=lH (BN3.out.trans (b5.mono (Nat.le_of_lt hgs4.out)))
 clear o5 v5 b5 HS KS KB B4 BN3 HST KV4 hgs4
 have VA5 : Hid (VertsAt w5 Al n X):=VA3.out.ext (by rw [← hgs.out]; exact BG5.out)
 have SL : Hid (∀ u,Below w5.heap.size w5 u → SeesL u gb X):=fun u hb => by
  have hV:=VA5.out.ext hb
  have hK:=KS5.out.ext hb
  rw [hn.out] at hV hK
  exact ⟨gs,Al,cl,_,_,(KB5.out.ext hb).cell 0,hK,hV⟩
 have hgbl : Hid (gb < w5.heap.size):=KB5.out.lt
 have hcC : ∀ args u,(callFunc 31 args).run Tryz.prog u = .ok (.enter 31 args) u:=enters_of Tryz.func31 (by kernel_rfl) rfl
 have hSl : Hid (S.length = m):=by rw [Hid,ES.out,List.length_map,hm.out]
 have BS:=lH (Below.refl w5.heap.size w5)
 go_wp2_with fail
 go_loopw [20,7] (fun iv sv wr => ∃ (k : Nat) (s0 : Value),k ≤ m ∧ iv = .int .i64 k ∧ s0 = sv ∧ Hid (wr.ownsRow w5.heap.size 89 2 s0 (S.take k).length ((S.take k).flatMap encS)) ∧ Hid (Below w5.heap.size w5 wr)) (fun iv _ _ => m - (intOf iv).toNat)
 case atStart => exact ⟨0,_,by omega,rfl,rfl,World.ownsRow_nil _ _ _ _,BS.out⟩
 case round =>
  clear BS
  obtain ⟨k,v0,hk,rfl,rfl,OW,B⟩:=hrel
  obtain ⟨wi,rfl⟩ : ∃ wx,wx = wr:=⟨_,rfl⟩
  have hk0 : (0 : Int) ≤ (k : Int):=by omega
  by_cases hlt : k < m
  ·have hlk : (k : Int) < (m : Int):=by omega
   obtain ⟨b,o,e,rfl,hb,he,Re⟩:=(EA.out.ext B.out).at_ hlt
   have RE:=lH Re
   obtain ⟨hi1,hi2⟩:=hin.out e (List.mem_of_getElem? he)
   obtain ⟨x1,hx1,ex1⟩:=Qh8 hi1
   obtain ⟨x2,hx2,ex2⟩:=Qh8 hi2
   have NS : Hid (S.take (k + 1) = S.take k ++ [(posL X e.1,posL X e.2)]):=by
    rw [Hid,Qgp (x:=(posL X e.1,posL X e.2))]
    rw [ES.out,List.getElem?_map,he]
    rfl
   have HC1:=lH (fun (u : World) (hu : Below w5.heap.size w5 u) => of1_any' (SL.out u hu) hn.out.symm hrise.out (by omega) (posL X e.1) x1 hx1 e.1 ex1 (Nat.lt_of_lt_of_le hgbl.out hu.size))
   have HC2:=lH (fun (u : World) (hu : Below w5.heap.size w5 u) => of1_any' (SL.out u hu) hn.out.symm hrise.out (by omega) (posL X e.2) x2 hx2 e.2 ex2 (Nat.lt_of_lt_of_le hgbl.out hu.size))
   clear Re hb he hi1 hi2 hx1 hx2 ex1 ex2
   generalize posL X e.1 = p1 at *
   generalize posL X e.2 = p2 at *
   have hlen : (S.take k).length ≤ 60000:=by rw [List.length_take]; omega
   have KE : Hid (Blk ((wi.alloc (.cells (encE (vid0,vid0)).toArray 88)).setRow wi.heap.size (encE e).toArray) wi.heap.size 88 (encE e).toArray):=(Blk.new _ _ _).row _
   have BE : Hid (Below wi.heap.size wi ((wi.alloc (.cells (encE (vid0,vid0)).toArray 88)).setRow wi.heap.size (encE e).toArray)):=Qad (Qaf wi _) (Nat.le_refl _) _
   go_upto_region 7 with (first
    | (refine wpList_load_mid rfl 88 _ (by rfl) b (o + k * 6) (by rfl) _ _ RE.out Qbg rfl Qbm ?_)
    | (refine Qam (allocEdge _) ?_)
    | (refine wpList_store_row rfl 88 _ _ (by rfl) wi.heap.size (encE e).toArray (by rfl) (by rfl) _ _ (Blk.new _ _ _) Qbm rfl (encE_all _) ?_))
   have OW6:=lH (Qap OW.out BE.out)
   have BW6:=lH (B.out.trans (BE.out.mono B.out.size))
   clear OW B BE RE
   generalize ((wi.alloc (.cells (encE (vid0,vid0)).toArray 88)).setRow wi.heap.size (encE e).toArray) = w6 at *
   generalize wi.heap.size = ge at *
   have D:=(Below.refl w6.heap.size w6).drew
   have OW7:=lH (Qap OW6.out D)
   have KE5:=lH (KE.out.ext D)
   have BW7:=lH (BW6.out.trans (D.mono BW6.out.size))
   clear OW6 BW6 KE D
   refine wp_region_held (S:=fun w' => Kept (fun q => v0.ownBlock = some q) w6.drew w') Qav ?_
   change wpAnyH _ _ _ _ _ _ _ _ w6.drew
   generalize w6.drew = w7 at *
   have hgeo : Hid (¬ (fun q => v0.ownBlock = some q) ge):=Qbd KE5.out (by decide) OW7.out
   have B7 : Hid (Kept (fun q => v0.ownBlock = some q) w7 w7):=Kept.refl _ _
   simp only [List.size_toArray,List.length_cons,List.length_nil]
   refine Qai 0 24 (v0) rfl (fun _ _ => Qax (v:=v0) rfl) B7.out ?_
   simp only [Act.put,sqA,sq0,sqS]
   refine Qai 1 25 (.func (.func 31) #[] #[.pointer (some ⟨gb,0,none⟩)]) rfl (fun _ _ => Qax (v:=.func (.func 31) #[] #[.pointer (some ⟨gb,0,none⟩)]) rfl) B7.out ?_
   simp only [Act.put,sqA,sq0,sqS]
   refine Qai 2 26 (.pointer (some ⟨ge,0,none⟩)) rfl (fun w' _ => Qc3 rfl rfl (index0E20 ge 0 w')) B7.out ?_
   simp only [Act.put,sqA,sq0,sqS]
   refine Qai 3 27 (.agg (encV e.1).toArray) rfl (fun w' h => Qb3 rfl (e_fst (Qau (h.blk KE5.out hgeo.out))) Qaj rfl Qal) B7.out ?_
   simp only [Act.put,sqA,sq0,sqS]
   refine Qai 5 29 (.func (.func 31) #[] #[.pointer (some ⟨gb,0,none⟩)]) rfl (fun _ _ => Qax (v:=.func (.func 31) #[] #[.pointer (some ⟨gb,0,none⟩)]) rfl) B7.out ?_
   simp only [Act.put,sqA,sq0,sqS]
   refine Qai 6 30 (.pointer (some ⟨ge,3,none⟩)) rfl (fun w' _ => Qc3 rfl rfl (index1E21 ge w')) B7.out ?_
   simp only [Act.put,sqA,sq0,sqS]
   refine Qai 7 31 (.agg (encV e.2).toArray) rfl (fun w' h => Qb3 rfl (e_snd' (Qau (h.blk KE5.out hgeo.out))) Qaj rfl Qal) B7.out ?_
   simp only [Act.put,sqA,sq0,sqS]
   refine oneH 4 ?_
   refine Qae rfl rfl (wp_calledC (args:=#[.agg (encV e.1).toArray]) (caps:=#[.pointer (some ⟨gb,0,none⟩)]) hcC rfl (by simp only [sqM,sqC,sqN]; rfl) (HC1.out w7 BW7.out) ?_)
   rintro e w_1 ⟨rfl,h_2⟩
   refine ⟨_,rfl,B7.out.then h_2, ?_⟩
   simp only [Act.put,sqA,sq0,sqS]
   have B_3:=lH (B7.out.then h_2)
   have F_4:=lH (Qap OW7.out h_2)
   have F_5:=lH (BW7.out.trans (h_2.mono BW7.out.size))
   clear B7 OW7 BW7
   clear h_2
   refine oneH 8 ?_
   refine Qae rfl rfl (wp_calledC (args:=#[.agg (encV e.2).toArray]) (caps:=#[.pointer (some ⟨gb,0,none⟩)]) hcC rfl (by simp only [sqM,sqC,sqN]; rfl) (HC2.out w_1 F_5.out) ?_)
   rintro e w_6 ⟨rfl,h_7⟩
   refine ⟨_,rfl,B_3.out.then h_7, ?_⟩
   simp only [Act.put,sqA,sq0,sqS]
   have B_8:=lH (B_3.out.then h_7)
   have F_9:=lH (Qap F_4.out h_7)
   have F_10:=lH (F_5.out.trans (h_7.mono F_5.out.size))
   clear B_3 F_4 F_5
   clear h_7
   refine Qai 9 33 ((.agg (encS (p1,p2)).toArray)) rfl (fun w' _ => Qbq (vs:=#[(0,.int .i64 ((p1 : Nat) : Int)),(1,.int .i64 ((p2 : Nat) : Int))]) (by simp only [sqM,sqC,sqN]; rfl) (buildS2 p1 p2 w')) B_8.out ?_
   simp only [Act.put,sqA,sq0,sqS]
   refine oneH 10 ?_
   have L_14 : Hid (Blk (w_6.alloc (.cells (encS (p1,p2)).toArray 89)) w_6.heap.size 89 (encS (p1,p2)).toArray):=Blk.new _ _ _
   have h_12 : Below w_6.heap.size w_6 (w_6.alloc (.cells (encS (p1,p2)).toArray 89)):=Qaf _ _
   refine Qae rfl rfl (Qd0 stepSl (cs:=(encS (p1,p2))) rfl (by omega) rfl ?_)
   refine ⟨B_8.out.then h_12, ?_⟩
   simp only [Act.put,sqA,sq0,sqS]
   generalize (w_6.alloc (.cells (encS (p1,p2)).toArray 89)) = w_11 at *
   have B_15:=lH (B_8.out.then h_12)
   have F_16:=lH (Qap F_9.out h_12)
   have F_17:=lH (F_10.out.trans (h_12.mono F_10.out.size))
   clear B_8 F_9 F_10
   clear h_12
   generalize w_6.heap.size = g_13 at *
   refine oneH 11 ?_
   refine Qae rfl rfl (Qb7 stepSl F_16.out (Qd1 L_14.out rfl) (by simp [encS,Value.oneCell']) F_17.out.size (by omega) (by unfold maxLen; omega) rfl rfl ?_)
   intro v_19 w_18 o_20 k_21 hv_22
   have O_23:=lH o_20
   have B_24:=lH (F_17.out.trans (k_21.below (fun q e => (F_16.out.lt q e).1) F_17.out.size))
   have B_25:=lH (B_15.out.trans k_21 fun x e => .inl e)
   refine ⟨B_25.out, ?_⟩
   simp only [Act.put,sqA,sq0,sqS]
   clear o_20 k_21 hv_22 B_15 F_16 F_17 L_14
   refine Qai 12 7 (v_19) rfl (fun _ _ => Qby (v:=v_19) rfl) B_25.out ?_
   simp only [Act.put,sqA,sq0,sqS]
   refine wpAnyH_done (by kernel_rfl) ?_ _
   have O9 : Hid (w_18.ownsRow w5.heap.size 89 2 v_19 (S.take (k + 1)).length ((S.take (k + 1)).flatMap encS)):=by
    rw [Hid,NS.out,List.length_append,List.flatMap_append]; simpa using O_23.out
   have B9:=B_24
   clear O_23 B_25
   go_wp2_with fail
   go_roundw
   case rel => exact ⟨k + 1,_,by omega,by go_num,rfl,O9.out,B9.out⟩
   case measure => simp [intOf]; omega
  ·have hlk : ¬ (k : Int) < (m : Int):=by omega
   rw [List.take_of_length_le (by rw [hSl.out]; omega)] at OW
   obtain ⟨Ao,co,rfl,_,so⟩:=Sl.of_own OW.out
   have KS10:=lH (KS5.out.ext B.out)
   have KB10:=lH (KB5.out.ext B.out)
   have BW10:=lH (B5.out.trans (B.out.mono B5.out.size))
   have hgsl : Hid (gs < w5.heap.size):=KS5.out.lt
   have BG10:=lH (BG5.out.trans (B.out.mono (Nat.le_of_lt hgsl.out)))
   have HR:=lH (fun (u : World) (hu : Below wi.heap.size wi u) => of8_any (n:=n) (c:=co) (by omega) (L:=S) (fun x hx => by rw [hn.out]; exact hSN.out x hx) (Qd2 so hu) (by have:=hSl.out; omega))
   have hcR : ∀ args u,(callFunc 36 args).run Tryz.prog u = .ok (.enter 36 args) u:=enters_of Tryz.func36 (by kernel_rfl) rfl
   have hcO : ∀ args u,(callFunc 37 args).run Tryz.prog u = .ok (.enter 37 args) u:=enters_of Tryz.func37 (by kernel_rfl) rfl
   clear so OW KS5 KB5 B5 BG5 B SL VA5 EA
   go_upto_region 9 with fail
   refine Qe0 (S:=fun w' => Below wi.heap.size wi w') (Z:=[10]) Qav ?_
   have B11 : Hid (Below wi.heap.size wi wi.drew):=(Below.refl _ _).drew
   change Qdu _ _ _ _ _ _ _ _ _ wi.drew
   generalize wi.drew = w11 at B11 ⊢
   simp only [List.size_toArray,List.length_cons,List.length_nil]
   refine zV (i:=0) rfl (by kernel_rfl) (by kernel_rfl) (by kernel_rfl) (by kernel_rfl) (by kernel_rfl) (fun _ _ _ h => h) rfl (fun w' h => Qcw rfl (loadPS gb w' _ ((KB10.out.ext h).cell 0))) B11.out ?_
   simp only [Act.put,sqA,sq0,sqS]
   refine zV (i:=1) rfl (by kernel_rfl) (by kernel_rfl) (by kernel_rfl) (by kernel_rfl) (by kernel_rfl) (fun _ _ _ h => h) rfl (fun w' h => Qcw rfl (loadPS gb w' _ ((KB10.out.ext h).cell 0))) B11.out ?_
   simp only [Act.put,sqA,sq0,sqS]
   refine zV (i:=2) rfl (by kernel_rfl) (by kernel_rfl) (by kernel_rfl) (by kernel_rfl) (by kernel_rfl) (fun _ _ _ h => h) rfl (fun w' h => Qiu rfl) B11.out ?_
   simp only [Act.put,sqA,sq0,sqS]
   refine zV (i:=3) rfl (by kernel_rfl) (by kernel_rfl) (by kernel_rfl) (by kernel_rfl) (by kernel_rfl) (fun _ _ _ h => h) rfl (fun w' h => Qbp rfl (fieldSh0 gs w')) B11.out ?_
   simp only [Act.put,sqA,sq0,sqS]
   refine zV (i:=4) rfl (by kernel_rfl) (by kernel_rfl) (by kernel_rfl) (by kernel_rfl) (by kernel_rfl) (fun _ _ _ h => h) rfl (fun w' h => Qcw rfl (loadXs gs 0 w' _ _ _ ((KS10.out.ext h).cell 0))) B11.out ?_
   simp only [Act.put,sqA,sq0,sqS]
   refine zV (i:=5) rfl (by kernel_rfl) (by kernel_rfl) (by kernel_rfl) (by kernel_rfl) (by kernel_rfl) (fun _ _ _ h => h) rfl (fun w' h => exLen Tryz.underlying39 rfl) B11.out ?_
   simp only [Act.put,sqA,sq0,sqS]
   refine zV (i:=6) rfl (by kernel_rfl) (by kernel_rfl) (by kernel_rfl) (by kernel_rfl) (by kernel_rfl) (fun _ _ _ h => h) rfl (fun w' h => Qax (v:=.slice Ao S.length co) rfl) B11.out ?_
   simp only [Act.put,sqA,sq0,sqS]
   refine Qcy (rs:=[7]) (by kernel_rfl) (by simp) ?_
   intro i hi
   simp only [List.mem_cons,List.not_mem_nil,or_false] at hi
   subst hi
   refine Qae rfl rfl (Qao (args:=#[.int .i64 ((n : Nat) : Int),.slice Ao S.length co]) hcR (by simp only [sqM,sqC,sqN]; rfl) (HR.out w11 B11.out) ?_)
   rintro e w12 ⟨gr,R,rfl,hra,hrv,_,b12⟩
   have B12:=lH (Qaa B11.out b12)
   have RA12:=lH hra
   have HRV:=lH hrv
   refine ⟨_,rfl,fun _ => B12.out, ?_⟩
   simp only [Act.put,sqA,sq0,sqS]
   clear b12 hra hrv B11
   refine Qgl (i:=8) rfl (by kernel_rfl) (by kernel_rfl) (by kernel_rfl) (by kernel_rfl) (fun _ _ _ h => h) rfl (fun w' => Qiu rfl) (fun _ => B12.out) ?_
   simp only [Act.put,sqA,sq0,sqS]
   refine zV (i:=9) rfl (by kernel_rfl) (by kernel_rfl) (by kernel_rfl) (by kernel_rfl) (by kernel_rfl) (fun _ _ _ h => h) rfl (fun w' h => Qbp rfl (fieldSh1 gs w')) B12.out ?_
   simp only [Act.put,sqA,sq0,sqS]
   have KS12:=lH (KS10.out.ext B12.out)
   have KB12:=lH (KB10.out.ext B12.out)
   refine Qcy (rs:=[10]) (by kernel_rfl) (by simp) ?_
   intro i hi
   simp only [List.mem_cons,List.not_mem_nil,or_false] at hi
   subst hi
   refine Qae rfl rfl (Qhv rfl rfl (storeRl gs 1 w12 (some ⟨gr,0,none⟩) _ (KS12.out.cell 1) (KS12.out.fr _)) ?_)
   refine ⟨noZ (by kernel_rfl), ?_⟩
   refine Qe1 (by kernel_rfl) ?_ _
   have kS : Kept (fun q => q = gs) w12 (w12.setCell ⟨gs,1,none⟩ (.pointer (some ⟨gr,0,none⟩))):=(Kept.refl (fun q => q = gs) _).setCell (F:=fun q => q = gs) (p:=⟨gs,1,none⟩) (.inl rfl) _
   have KS13 : Hid (Blk (w12.setCell ⟨gs,1,none⟩ (.pointer (some ⟨gr,0,none⟩))) gs 79 #[.slice Al n cl,.pointer (some ⟨gr,0,none⟩),.slice none 0 0]):=KS12.out.set_ 1 _
   have KB13:=lH (kS.blk KB12.out (fun e => by have e : gb = gs:=e; have:=hgb.out; have:=hgs.out; omega))
   have RA13:=lH (RA12.out.keepS kS (fun q e => by have e : q = gs:=e; rw [e]; exact ⟨_,KS12.out⟩))
   have BG13 : Hid (Below gs w3 (w12.setCell ⟨gs,1,none⟩ (.pointer (some ⟨gr,0,none⟩)))):=(BG10.out.trans (B12.out.mono (Nat.le_of_lt KS10.out.lt))).setCell (p:=⟨gs,1,none⟩) (Nat.le_refl _) _
   have BW13 : Hid (Below w.heap.size w (w12.setCell ⟨gs,1,none⟩ (.pointer (some ⟨gr,0,none⟩)))):=(BW10.out.trans (B12.out.mono BW10.out.size)).setCell (p:=⟨gs,1,none⟩) hwg.out _
   clear kS KS12 KB12 RA12 BG10 BW10 B12 KS10 KB10 HR
   generalize (w12.setCell ⟨gs,1,none⟩ (.pointer (some ⟨gr,0,none⟩))) = w13 at *
   have TR : Hid (TransR n R):=transR_of (fun x hx => by rw [hn.out]; exact hSN.out x hx) HRV.out
   have HO9:=lH (fun (u : World) (hu : Below w13.heap.size w13 u) => order9_any (RA13.out.ext hu) TR.out)
   go_upto_region 10 with fail
   refine Qe0 (S:=fun w' => Below w13.heap.size w13 w') (Z:=[8]) Qav ?_
   have B14 : Hid (Below w13.heap.size w13 w13.drew):=(Below.refl _ _).drew
   change Qdu _ _ _ _ _ _ _ _ _ w13.drew
   generalize w13.drew = w14 at B14 ⊢
   simp only [List.size_toArray,List.length_cons,List.length_nil]
   refine zV (i:=0) rfl (by kernel_rfl) (by kernel_rfl) (by kernel_rfl) (by kernel_rfl) (by kernel_rfl) (fun _ _ _ h => h) rfl (fun w' h => Qcw rfl (loadPS gb w' _ ((KB13.out.ext h).cell 0))) B14.out ?_
   simp only [Act.put,sqA,sq0,sqS]
   refine zV (i:=1) rfl (by kernel_rfl) (by kernel_rfl) (by kernel_rfl) (by kernel_rfl) (by kernel_rfl) (fun _ _ _ h => h) rfl (fun w' h => Qcw rfl (loadPS gb w' _ ((KB13.out.ext h).cell 0))) B14.out ?_
   simp only [Act.put,sqA,sq0,sqS]
   refine zV (i:=2) rfl (by kernel_rfl) (by kernel_rfl) (by kernel_rfl) (by kernel_rfl) (by kernel_rfl) (fun _ _ _ h => h) rfl (fun w' h => Qiu rfl) B14.out ?_
   simp only [Act.put,sqA,sq0,sqS]
   refine zV (i:=3) rfl (by kernel_rfl) (by kernel_rfl) (by kernel_rfl) (by kernel_rfl) (by kernel_rfl) (fun _ _ _ h => h) rfl (fun w' h => Qbp rfl (fieldSh1 gs w')) B14.out ?_
   simp only [Act.put,sqA,sq0,sqS]
   refine zV (i:=4) rfl (by kernel_rfl) (by kernel_rfl) (by kernel_rfl) (by kernel_rfl) (by kernel_rfl) (fun _ _ _ h => h) rfl (fun w' h => Qcw rfl (loadRl gs 1 w' _ ((KS13.out.ext h).cell 1))) B14.out ?_
   simp only [Act.put,sqA,sq0,sqS]
   refine Qcy (rs:=[5]) (by kernel_rfl) (by simp) ?_
   intro i hi
   simp only [List.mem_cons,List.not_mem_nil,or_false] at hi
   subst hi
   refine Qae rfl rfl (Qao (args:=#[.pointer (some ⟨gr,0,none⟩)]) hcO (by simp only [sqM,sqC,sqN]; rfl) (HO9.out w14 B14.out) ?_)
   rintro e w15 ⟨Aq,cq,rfl,oq,b15⟩
   have B15:=lH (Qaa B14.out b15)
   have OQ:=lH oq
   have hb14 : Hid (w13.heap.size ≤ w14.heap.size):=B14.out.size
   refine ⟨_,rfl,fun _ => B15.out, ?_⟩
   simp only [Act.put,sqA,sq0,sqS]
   clear b15 oq
   refine Qgl (i:=6) rfl (by kernel_rfl) (by kernel_rfl) (by kernel_rfl) (by kernel_rfl) (fun _ _ _ h => h) rfl (fun w' => Qiu rfl) (fun _ => B15.out) ?_
   simp only [Act.put,sqA,sq0,sqS]
   refine zV (i:=7) rfl (by kernel_rfl) (by kernel_rfl) (by kernel_rfl) (by kernel_rfl) (by kernel_rfl) (fun _ _ _ h => h) rfl (fun w' h => Qbp rfl (fieldSh2 gs w')) B15.out ?_
   simp only [Act.put,sqA,sq0,sqS]
   have KS15:=lH (KS13.out.ext B15.out)
   have KB15:=lH (KB13.out.ext B15.out)
   refine Qcy (rs:=[8]) (by kernel_rfl) (by simp) ?_
   intro i hi
   simp only [List.mem_cons,List.not_mem_nil,or_false] at hi
   subst hi
   refine Qae rfl rfl (Qhv rfl rfl (storeNs gs 2 w15 Aq (ordR R n).length cq _ (KS15.out.cell 2) (KS15.out.fr _)) ?_)
   refine ⟨noZ (by kernel_rfl), ?_⟩
   refine Qe1 (by kernel_rfl) ?_ _
   have kS : Kept (fun q => q = gs) w15 (w15.setCell ⟨gs,2,none⟩ (.slice Aq (ordR R n).length cq)):=(Kept.refl (fun q => q = gs) _).setCell (F:=fun q => q = gs) (p:=⟨gs,2,none⟩) (.inl rfl) _
   have KS16 : Hid (Blk (w15.setCell ⟨gs,2,none⟩ (.slice Aq (ordR R n).length cq)) gs 79 #[.slice Al n cl,.pointer (some ⟨gr,0,none⟩),.slice Aq (ordR R n).length cq]):=KS15.out.set_ 2 _
   have KB16:=lH (kS.blk KB15.out (fun e => by have e : gb = gs:=e; have:=hgb.out; have:=hgs.out; omega))
   have RA16:=lH ((RA13.out.ext B15.out).keepS kS (fun q e => by have e : q = gs:=e; rw [e]; exact ⟨_,KS15.out⟩))
   have hg13 : Hid (gs < w13.heap.size):=KS13.out.lt
   have SQ : Hid ((w15.setCell ⟨gs,2,none⟩ (.slice Aq (ordR R n).length cq)).ownsRow 0 3 1 (.slice Aq (ordR R n).length cq) (ordR R n).length (encN (ordR R n))):=Qbk (ownsRow_setCell_below OQ.out (a:=⟨gs,2,none⟩) (by show gs < w14.heap.size; have h2:=hb14.out; have h3:=hg13.out; omega) _) (Nat.zero_le _)
   have BG16 : Hid (Below gs w3 (w15.setCell ⟨gs,2,none⟩ (.slice Aq (ordR R n).length cq))):=(BG13.out.trans (B15.out.mono (Nat.le_of_lt hg13.out))).setCell (p:=⟨gs,2,none⟩) (Nat.le_refl _) _
   have BW16 : Hid (Below w.heap.size w (w15.setCell ⟨gs,2,none⟩ (.slice Aq (ordR R n).length cq))):=(BW13.out.trans (B15.out.mono BW13.out.size)).setCell (p:=⟨gs,2,none⟩) hwg.out _
   clear kS KS15 KB15 RA13 BG13 BW13 B15 KS13 KB13 HO9 OQ B14
   generalize (w15.setCell ⟨gs,2,none⟩ (.slice Aq (ordR R n).length cq)) = w16 at *
   have y0 : w16.cell? ⟨gb,0,none⟩ = some (.pointer (some ⟨gs,0,none⟩)):=KB16.out.cell 0
   have VA16 : Hid (VertsAt w16 Al n X):=VA3.out.ext (by rw [← hgs.out]; exact BG16.out)
   go_wp2_with fail
   go_ret
   refine ⟨gs,R,rfl, ?_,HRV.out,by rw [← hn.out]; exact TR.out,BW16.out⟩
   rw [← hn.out]
   have hX1:=VA16.out
   have hK1:=KS16.out
   have hR1:=RA16.out
   rw [hn.out] at hX1 hK1 hR1
   refine ⟨Al,cl,gr,Aq,cq, ?_,hX1,hR1, ?_⟩
   ·rw [← hn.out] at hK1 ⊢; exact hK1
   ·exact SQ.out
theorem lof_any {w : World} {F : Nat → Prop} {g : Nat} {L : List PatV} (HG : GraphAt w F g L) (hf : L.length ≤ 300) (v : VidV) :
  Calls Tryz.prog 9 #[.pointer (some ⟨g,0,none⟩),.agg (encV v).toArray] w (RetSheet w (Qdf L v) (Qh0 L v)):=by
 obtain ⟨hlx,hle⟩:=lines_few HG.ok hf v
 exact lof_gen (fun u hu => of20_any (HG.ext hu) (by omega) v 3) (fun u hu => stepsOf20_any (HG.ext hu) (by omega) v) hlx hle (linesL_rise HG.ok v) (fun e he => steps_in HG.ok he) rfl (stepsN_lt HG.ok)
end Go.Proofs.YtdafiipedlglpaaGreat
