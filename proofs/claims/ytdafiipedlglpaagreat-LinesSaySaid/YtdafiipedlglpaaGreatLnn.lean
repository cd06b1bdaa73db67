/- Texts of general use, one behind another. -/
import Derived.Test.YtdafiipedlglpaaGreatLny
import Derived.Test.YtdafiipedlglpaaGreatRlts
import Derived.Test.YtdafiipedlglpaaGreatLnx
import Derived.Test.YtdafiipedlglpaaGreatRgs
import Derived.Test.YtdafiipedlglpaaGreatRgw

/- The document's lines: where one stands: walked. -/
namespace Go.Proofs.YtdafiipedlglpaaGreat
open Go.RowKit

set_option maxRecDepth 100000 in
set_option maxHeartbeats 2000000 in
theorem rplace_any (l : List Qa4) (w : World) (A : Option Addr) (n c : Nat) (hm : n ≤ 100000) (h : VertsAt w A n l) (hn : l.length = n) (v : VidV) (hv : ∃ x ∈ l,x.1 = v) :
  Calls Tryz.prog 40 #[.slice A n c,.agg (encV v).toArray] w (RetB w (.int .i64 ((posL l v : Nat) : Int))):=by
 have KV : Hid (Blk (w.alloc (.cells (encV v).toArray 27)) w.heap.size 27 (encV v).toArray):=Blk.new _ _ _
 have B0 : Hid (Below w.heap.size w (w.alloc (.cells (encV v).toArray 27))):=Qaf _ _
 have H:=lH (h.ext B0.out)
 obtain ⟨xp,hxp,exp⟩:=Qh8 hv
 have hpn : posL l v < n:=by rw [← hn]; exact (List.getElem?_eq_some_iff.1 hxp).1
 have hbefore:=lH (fun a y (ha : a < posL l v) (hy : l[a]? = some y) => posL_before ha hy)
 have HXP:=lH hxp
 have EXP:=lH exp
 replace hn:=lH hn
 clear h hv hxp exp
 generalize posL l v = p at *
 go_enter Tryz.func40,Tryz.ntmps40
 go_upto_region 1 with fail
 generalize (w.alloc (.cells (encV v).toArray 27)) = w2 at *
 obtain ⟨gv,hgv⟩ : ∃ g,g = w.heap.size:=⟨_,rfl⟩
 rw [← hgv] at KV ⊢
 replace hgv:=lH hgv
 have RV:=lH (Qau KV.out)
 go_wp2_with fail
 go_loopw [5] (fun i wr => ∃ k : Nat,k ≤ p ∧ i = .int .i64 k ∧ ∃ q,wr = w2.drewN q) (fun i _ => p - (intOf i).toNat)
 case atStart => exact ⟨0,by omega,rfl,0,rfl⟩
 case round =>
  obtain ⟨k,hk,rfl,q,rfl⟩:=hrel
  have hlt : k < n:=by omega
  obtain ⟨b,o,x,rfl,hb,hx,R1⟩:=H.out.at_ hlt
  have R1:=lH (x_vid20 R1)
  have hlk : (k : Int) < (n : Int):=by omega
  have hk0 : (0 : Int) ≤ (k : Int):=by omega
  by_cases hkp : k = p
  ·have hxv : x.1 = v:=by
    rw [hkp,HXP.out] at hx
    rw [← Option.some.inj hx]
    exact EXP.out
   have EQ : ∀ u : World,(binOp .eql 27 (.agg (encV x.1).toArray) (.agg (encV v).toArray)).run Tryz.prog u = .ok (.bool true) u:=fun u => by rw [eqlV,dqT hxv]
   replace hkp:=lH hkp
   clear hx hxv
   go_wp2_with fail
   refine wp_region_quiet_lit (by kernel_rfl) (by kernel_rfl) ?_
   repeat (first | (refine Qab (Qaw R1.out) Qaj rfl Qal rfl rfl ?_; simp only [sqS,sq0]) | (refine Qab (Qaw RV.out) Qaj rfl Qal rfl rfl ?_; simp only [sqS,sq0]) | go_big_quiet_step (fail))
   refine wpQuiet_nil ?_
   rintro _ ⟨nq,rfl⟩
   go_wp2_with fail
   go_ret
   exact ⟨by rw [hkp.out]; rfl,Qat (Qat B0.out _) _⟩
  ·have hxv : x.1 ≠ v:=hbefore.out k x (by omega) hx
   have EQ : ∀ u : World,(binOp .eql 27 (.agg (encV x.1).toArray) (.agg (encV v).toArray)).run Tryz.prog u = .ok (.bool false) u:=fun u => by rw [eqlV,dqF hxv]
   have hk1 : k + 1 ≤ p:=by omega
   clear hx hxv hkp
   go_wp2_with fail
   refine wp_region_quiet_lit (by kernel_rfl) (by kernel_rfl) ?_
   repeat (first | (refine Qab (Qaw R1.out) Qaj rfl Qal rfl rfl ?_; simp only [sqS,sq0]) | (refine Qab (Qaw RV.out) Qaj rfl Qal rfl rfl ?_; simp only [sqS,sq0]) | go_big_quiet_step (fail))
   refine wpQuiet_nil ?_
   rintro _ ⟨nq,rfl⟩
   go_wp2_with fail
   go_roundw
   case rel => exact ⟨k + 1,hk1,by go_num,⟨_,rfl⟩⟩
   case measure => simp [intOf]; omega
end Go.Proofs.YtdafiipedlglpaaGreat

/- The document's lines: their order, which are alive, which are alike no other: walked. -/
namespace Go.Proofs.YtdafiipedlglpaaGreat
open Go.RowKit

def shV (Al : Option Addr) (nl cl n : Nat) (A : Option Addr) (m c : Nat) : List Value:=[.slice Al nl cl,.int .i64 ((n : Nat) : Int),.slice A m c]
def RSheet (w : World) (v : Value) (X : List Qa4) (R : Nat → Nat → Bool) : Prop:=
 ∃ Al cl A m c,v = .agg (shV Al X.length cl X.length A m c).toArray ∧ VertsAt w Al X.length X ∧ R8At w (.agg (Qch X.length A m c)) X.length R
theorem RSheet.ext {w w' : World} {v : Value} {X : List Qa4} {R : Nat → Nat → Bool} (h : RSheet w v X R) (hb : Below w.heap.size w w') : RSheet w' v X R:=by
 obtain ⟨Al,cl,A,m,c,h1,h2,h3⟩:=h
 exact ⟨Al,cl,A,m,c,h1,h2.ext hb,h3.ext hb⟩
theorem Qg1 : Tryz.prog.underlying 44 = some (.struct (Tryz.prog.fieldsOf 44)):=by kernel_rfl
theorem Qfo : (Tryz.prog.info? 44).map (·.size) = some 3:=by kernel_rfl
theorem sh_rel {w : World} {g : Nat} {Al : Option Addr} {nl cl n m c : Nat} {A : Option Addr} (h : Blk w g 44 (shV Al nl cl n A m c).toArray) : w.rangeAt g 1 (Qch n A m c).toList:=fun j v hj => by
 rw [h.cell (1 + j)]
 match j,hj with
 | 0,hj => exact hj
 | 1,hj => exact hj
 | j + 2,hj => simp [Qch] at hj
set_option maxRecDepth 100000 in
set_option maxHeartbeats 2000000 in
theorem rorder21_any {w : World} {v : Value} {X : List Qa4} {R : Nat → Nat → Bool} (h : RSheet w v X R) : Calls Tryz.prog 16 #[v] w (RetNs w (ordR R X.length)):=by
 obtain ⟨Al,cl,A,m,c,rfl,_,h3⟩:=h
 have KB : Hid (Blk (w.alloc (.cells (shV Al X.length cl X.length A m c).toArray 44)) w.heap.size 44 (shV Al X.length cl X.length A m c).toArray):=Blk.new _ _ _
 have B0 : Hid (Below w.heap.size w (w.alloc (.cells (shV Al X.length cl X.length A m c).toArray 44))):=Qaf _ _
 have HO:=lH (rorder9_any (h3.ext B0.out))
 clear h3
 generalize X.length = n at *
 go_enter Tryz.func16,Tryz.ntmps16
 go_upto_region 1 with fail
 generalize (w.alloc (.cells (shV Al n cl n A m c).toArray 44)) = w2 at *
 obtain ⟨gb,hgb⟩ : ∃ g,g = w.heap.size:=⟨_,rfl⟩
 rw [← hgb] at KB ⊢
 replace hgb:=lH hgb
 have RB:=lH (sh_rel KB.out)
 go_wp2_with (refine wpList_load_mid rfl 42 _ (by rfl) gb 1 (by rfl) _ _ RB.out Qcs rfl Qdg ?_)
 refine HO.out.mono ?_
 rintro e w3 ⟨A3,c3,rfl,o3,b3⟩
 have O3:=lH (Qbk o3 B0.out.size)
 have B3:=lH (B0.out.trans (b3.mono B0.out.size))
 clear o3 b3 HO KB RB B0
 go_wp2
 go_ret
 exact ⟨A3,c3,rfl,O3.out,B3.out⟩
set_option maxRecDepth 100000 in
set_option maxHeartbeats 4000000 in
theorem ralive21_any {w : World} {v : Value} {X : List Qa4} {R : Nat → Nat → Bool} (h : RSheet w v X R) (hX : X.length ≤ 60000) : Calls Tryz.prog 18 #[v] w (RetNs w (Qen X (ordR R X.length))):=by
 have hv:=h
 obtain ⟨Al,cl,A,m,c,rfl,h2,h3⟩:=h
 have hT:=lH (ordR_told h3.trans)
 have hF : Hid (∀ i ∈ ordR R X.length,i < X.length):=fun i hi => hT.out.1.lt i hi
 have KB : Hid (Blk (w.alloc (.cells (shV Al X.length cl X.length A m c).toArray 44)) w.heap.size 44 (shV Al X.length cl X.length A m c).toArray):=Blk.new _ _ _
 have B0 : Hid (Below w.heap.size w (w.alloc (.cells (shV Al X.length cl X.length A m c).toArray 44))):=Qaf _ _
 have HO:=lH (rorder21_any (hv.ext B0.out))
 have VA:=lH (h2.ext B0.out)
 have hFl : (ordR R X.length).length = X.length:=hT.out.2
 clear h3 h2 hv hT
 generalize ordR R X.length = F at *
 obtain ⟨n,hn⟩ : ∃ n,n = X.length:=⟨_,rfl⟩
 rw [← hn] at KB B0 HO VA hF hX hFl ⊢
 replace hn:=lH hn
 go_enter Tryz.func18,Tryz.ntmps18
 go_upto_region 1 with fail
 generalize (w.alloc (.cells (shV Al n cl n A m c).toArray 44)) = w2 at *
 obtain ⟨gb,hgb⟩ : ∃ g,g = w.heap.size:=⟨_,rfl⟩
 rw [← hgb] at KB ⊢
 replace hgb:=lH hgb
 go_wp2_with (refine wpList_load_row rfl 44 _ (by rfl) gb (by rfl) _ _ _ _ KB.out Qg1 rfl Qfo ?_)
 refine HO.out.mono ?_
 rintro e w3 ⟨A3,c3,rfl,o3,b3⟩
 obtain ⟨_,_,e3,_,s3⟩:=Sl.of_own o3
 cases e3
 rw [hFl] at s3 ⊢
 have S3:=lH s3
 have KB3:=lH (KB.out.ext b3)
 have VA3:=lH (VA.out.ext b3)
 have B3:=lH (B0.out.trans (b3.mono B0.out.size))
 have hFl:=lH hFl
 clear o3 s3 b3 HO KB VA B0
 have BR:=lH (Below.refl w3.heap.size w3)
 go_wp2_with fail
 go_loopw [3,5] (fun s iv wr => ∃ (k c' : Nat) (A' : Option Addr),k ≤ n ∧ s = .slice A' (Qen X (F.take k)).length c' ∧ iv = .int .i64 k ∧ Hid (wr.ownsRow w3.heap.size 3 1 (.slice A' (Qen X (F.take k)).length c') (Qen X (F.take k)).length (encN (Qen X (F.take k)))) ∧ Hid (Below w3.heap.size w3 wr)) (fun _ iv _ => n - (intOf iv).toNat)
 case atStart => exact ⟨0,0,none,by omega,rfl,rfl,World.ownsRow_nil _ _ _ _,BR.out⟩
 case round =>
  clear BR
  obtain ⟨k,c',A',hk,rfl,rfl,O,B⟩:=hrel
  obtain ⟨wi,rfl⟩ : ∃ wx,wx = wr:=⟨_,rfl⟩
  have hk0 : (0 : Int) ≤ (k : Int):=by omega
  by_cases hlt : k < n
  ·have hlk : (k : Int) < (n : Int):=by omega
   obtain ⟨b,o,i,rfl,hb,hi,y1⟩:=sl_cell (Qd2 S3.out B.out) hFl.out hlt
   have hin : i < n:=hF.out i (List.mem_of_getElem? hi)
   obtain ⟨b2,o2,x,rfl,hb2,hx,R2⟩:=(VA3.out.ext B.out).at_ hin
   have hi0 : (0 : Int) ≤ (i : Int):=by omega
   have hi1 : (i : Int) < (n : Int):=by omega
   have y2 : wi.cell? ⟨b2,o2 + i * 9 + 8,none⟩ = some (.bool x.2.2.2.2):=x_dead R2
   have y0 : wi.cell? ⟨gb,0,none⟩ = some (.slice (some ⟨b2,o2,none⟩) n cl):=(KB3.out.ext B.out).cell 0
   have hdx:=deadI_some hx
   have hll : (Qen X (F.take k)).length ≤ 60000:=Nat.le_trans (List.length_filter_le _ _) (by rw [List.length_take]; omega)
   have EN1 : Hid (x.2.2.2.2 = false → Qen X (F.take (k + 1)) = Qen X (F.take k) ++ [i]):=fun h => filtN_t hi (by simp only [hdx,h]; rfl)
   have EN2 : Hid (x.2.2.2.2 = true → Qen X (F.take (k + 1)) = Qen X (F.take k)):=fun h => filtN_f hi (by simp only [hdx,h]; rfl)
   clear hi hx hdx R2 hb hb2
   generalize x.2.2.2.2 = d at *
   go_wp2_with fail
   refine wp_region_quiet_lit (by kernel_rfl) (by kernel_rfl) ?_
   repeat (go_big_quiet_step (fail))
   refine wpQuiet_nil ?_
   rintro _ ⟨nq,rfl⟩
   have O1:=lH (Qap O.out (Qat (Below.refl wi.heap.size wi) nq))
   have B1:=lH (Qat B.out nq)
   have z1 : (wi.drewN nq).cell? ⟨b,o + k,none⟩ = some (.int .i64 ((i : Nat) : Int)):=y1
   clear y0 y1 y2 O B
   generalize wi.drewN nq = w4 at *
   cases d
   ·have E2:=lH (EN1.out rfl)
    have G : Hid (w3.heap.size ≤ w4.heap.size):=B1.out.size
    clear EN1 EN2
    generalize Qen X (F.take k) = M at *
    go_wp2_with (at_builtin; refine Qcu intSlH O1.out [.int .i64 (i : Int)] rfl (by simp [Value.oneCell']) G.out (by omega) (by unfold maxLen; omega) (by rfl) (by rfl) (by rfl) ?_; intro v1 w6 own1 kp hv1)
    obtain ⟨A6,c6,rfl,_,_⟩:=Sl.of_own own1
    have B6:=lH (B1.out.trans (kp.below (fun k e => (O1.out.lt k e).1) B1.out.size))
    have O6 : Hid (w6.ownsRow w3.heap.size 3 1 (.slice A6 (M ++ [i]).length c6) (M ++ [i]).length (encN (M ++ [i]))):=by rw [Hid,List.length_append,Qgy]; exact own1
    clear own1 kp hv1 O1 B1
    go_roundw
    case rel => exact ⟨k + 1,c6,A6,by omega,by rw [E2.out,List.length_append]; rfl,by go_num,by rw [E2.out]; exact O6.out,B6.out⟩
    case measure => simp [intOf]; omega
   ·have E2:=lH (EN2.out rfl)
    clear EN1 EN2
    go_wp2_with fail
    go_roundw
    case rel => exact ⟨k + 1,c',A',by omega,by rw [E2.out],by go_num,by rw [E2.out]; exact O1.out,B1.out⟩
    case measure => simp [intOf]; omega
  ·have hlk : ¬ (k : Int) < (n : Int):=by omega
   rw [List.take_of_length_le (by rw [hFl.out]; omega)] at O ⊢
   have OO:=lH (Qg4 (base':=w.heap.size) O.out fun k e => Nat.le_trans B3.out.size (O.out.lt k e).1)
   have BB:=lH (B3.out.trans (B.out.mono B3.out.size))
   go_wp2
   go_ret
   exact ⟨A',c',rfl,OO.out,BB.out⟩
set_option maxRecDepth 100000 in
set_option maxHeartbeats 2000000 in
theorem ralike8_any {w : World} {n m c : Nat} {A : Option Addr} {R : Nat → Nat → Bool} (h : R8At w (.agg (Qch n A m c)) n R) (i j : Nat) (hi : i < n) : Calls Tryz.prog 47 #[.agg (Qch n A m c),.int .i64 ((i : Nat) : Int),.int .i64 ((j : Nat) : Int)] w (RetB w (.bool (Qfh R i j))):=by
 have KB : Hid (Blk (w.alloc (.cells (Qch n A m c) 42)) w.heap.size 42 (Qch n A m c)):=Blk.new _ _ _
 have B0 : Hid (Below w.heap.size w (w.alloc (.cells (Qch n A m c) 42))):=Qaf _ _
 have H1:=lH (fun (u : World) (hu : Below w.heap.size w u) => Qgw (h.ext hu) ((i : Nat) : Int) ((j : Nat) : Int))
 have H2:=lH (fun (u : World) (hu : Below w.heap.size w u) => Qgw (h.ext hu) ((j : Nat) : Int) ((i : Nat) : Int))
 rw [Qff] at H1 H2
 have E : Hid (Qfh R i j = (decide (i = j) || (R i j && R j i))):=rfl
 have hi0 : (0 : Int) ≤ (i : Int):=by omega
 have hi1 : (i : Int) < (n : Int):=by omega
 clear h
 go_enter Tryz.func47,Tryz.ntmps47
 go_upto_region 1 with fail
 generalize w.alloc (.cells (Qch n A m c) 42) = w2 at *
 obtain ⟨gb,hgb⟩ : ∃ g,g = w.heap.size:=⟨_,rfl⟩
 rw [← hgb] at KB ⊢
 replace hgb:=lH hgb
 have y0 : w2.cell? ⟨gb,0,none⟩ = some (.int .i64 ((n : Nat) : Int)):=KB.out.cell 0
 by_cases hij : i = j
 ·have z : (((i : Nat) : Int) == ((j : Nat) : Int)) = true:=by rw [beq_iff_eq]; omega
  rw [dqT hij,Bool.true_or] at E
  replace hij:=lH hij
  go_wp2_with fail
  go_ret
  exact ⟨Qag E.out.symm,B0.out⟩
 ·have z : (((i : Nat) : Int) == ((j : Nat) : Int)) = false:=by rw [beq_eq_false_iff_ne]; omega
  rw [dqF hij,Bool.false_or] at E
  replace hij:=lH hij
  cases h1 : R i j
  ·rw [h1] at H1 E
   rw [Bool.false_and] at E
   clear h1 H2
   go_wp2_with (refine Qa6 (by kernel_rfl) 42 _ (by rfl) gb (by rfl) _ _ _ _ KB.out Qcs rfl Qdg ?_)
   refine (H1.out w2 B0.out).mono ?_
   rintro e w3 ⟨rfl,b3⟩
   have B3:=lH (B0.out.trans (b3.mono B0.out.size))
   clear b3 y0
   go_wp2_with fail
   go_ret
   exact ⟨Qag E.out.symm,B3.out⟩
  ·rw [h1] at H1 E
   rw [Bool.true_and] at E
   clear h1
   generalize R j i = r at *
   go_wp2_with (refine Qa6 (by kernel_rfl) 42 _ (by rfl) gb (by rfl) _ _ _ _ KB.out Qcs rfl Qdg ?_)
   refine (H1.out w2 B0.out).mono ?_
   rintro e w3 ⟨rfl,b3⟩
   have B3:=lH (B0.out.trans (b3.mono B0.out.size))
   have KB3:=lH (KB.out.ext b3)
   clear b3 y0 KB
   go_wp2_with (refine Qa6 (by kernel_rfl) 42 _ (by rfl) gb (by rfl) _ _ _ _ KB3.out Qcs rfl Qdg ?_)
   refine (H2.out w3 B3.out).mono ?_
   rintro e w4 ⟨rfl,b4⟩
   have B4:=lH (B3.out.trans (b4.mono B3.out.size))
   clear b4
   go_wp2_with fail
   go_ret
   exact ⟨Qag E.out.symm,B4.out⟩
set_option maxRecDepth 100000 in
set_option maxHeartbeats 4000000 in
theorem rfirm21_any {w : World} {v : Value} {X : List Qa4} {R : Nat → Nat → Bool} (h : RSheet w v X R) (hX : X.length ≤ 60000) (i : Int) : Calls Tryz.prog 20 #[v,.int .i64 i] w (RetB w (.bool (firmR R X.length i))):=by
 obtain ⟨Al,cl,A,m,c,rfl,_,h3⟩:=h
 have KB : Hid (Blk (w.alloc (.cells (shV Al X.length cl X.length A m c).toArray 44)) w.heap.size 44 (shV Al X.length cl X.length A m c).toArray):=Blk.new _ _ _
 have B0 : Hid (Below w.heap.size w (w.alloc (.cells (shV Al X.length cl X.length A m c).toArray 44))):=Qaf _ _
 have HR:=lH (h3.ext B0.out)
 clear h3
 generalize X.length = n at *
 by_cases h0 : i < 0
 ·have N:=lH (Qiq (R:=R) (n:=n) (.inl h0))
  go_enter Tryz.func20,Tryz.ntmps20
  go_upto_region 1 with fail
  generalize (w.alloc (.cells (shV Al n cl n A m c).toArray 44)) = w2 at *
  go_wp2_with fail
  go_ret
  exact ⟨Qag N.out.symm,B0.out⟩
 ·have d0 : decide (i < 0) = false:=dqF h0
  obtain ⟨k,rfl⟩ : ∃ k : Nat,i = (k : Int):=⟨i.toNat,by omega⟩
  have EO:=lH (fun h => Qiq (R:=R) (n:=n) (i:=((k : Nat) : Int)) (.inr h))
  have EI:=lH (fun h => firmR_in (R:=R) (n:=n) (k:=k) h)
  clear h0
  go_enter Tryz.func20,Tryz.ntmps20
  go_upto_region 1 with fail
  generalize (w.alloc (.cells (shV Al n cl n A m c).toArray 44)) = w2 at *
  obtain ⟨gb,hgb⟩ : ∃ g,g = w.heap.size:=⟨_,rfl⟩
  rw [← hgb] at KB ⊢
  replace hgb:=lH hgb
  have y0 : w2.cell? ⟨gb,0,none⟩ = some (.slice Al n cl):=KB.out.cell 0
  by_cases hk : k < n
  ·have N:=lH (EI.out hk)
   have d1 : decide ((n : Int) ≤ (k : Int)) = false:=dqF (by omega)
   have d1' : decide (n ≤ k) = false:=dqF (by omega)
   clear EI EO
   have BR:=lH (Below.refl w2.heap.size w2)
   go_wp2_with fail
   clear y0
   go_loopw [5] (fun v wr => ∃ j : Nat,j ≤ n ∧ v = .int .i64 j ∧ Hid ((List.range j).all (fun j => decide (j = k) || !Qfh R k j) = true) ∧ Hid (Below w2.heap.size w2 wr)) (fun v _ => n - (intOf v).toNat)
   case atStart => exact ⟨0,by omega,rfl,rfl,BR.out⟩
   case round =>
    clear BR
    obtain ⟨j,hj,rfl,T,B⟩:=hrel
    obtain ⟨wi,rfl⟩ : ∃ wx,wx = wr:=⟨_,rfl⟩
    have y0 : wi.cell? ⟨gb,0,none⟩ = some (.slice Al n cl):=(KB.out.ext B.out).cell 0
    have hj0 : (0 : Int) ≤ (j : Int):=by omega
    have RB:=lH (sh_rel (KB.out.ext B.out))
    by_cases hlt : j < n
    ·have hlj : (j : Int) < (n : Int):=by omega
     by_cases hjk : j = k
     ·subst hjk
      have z : (((j : Nat) : Int) != ((j : Nat) : Int)) = false:=by simp
      have T2:=lH (Qi1 (q:=fun i => decide (i = j) || !Qfh R j i) T.out (by rw [dqT rfl]; rfl))
      go_wp2_with fail
      go_roundw
      case rel => exact ⟨j + 1,by omega,by go_num,T2.out,B.out⟩
      case measure => simp [intOf]; omega
     ·have z : (((j : Nat) : Int) != ((k : Nat) : Int)) = true:=by rw [bne_iff_ne]; omega
      have HA:=lH (ralike8_any (HR.out.ext B.out) k j hk)
      cases ha : Qfh R k j
      ·have T2:=lH (Qi1 (q:=fun j => decide (j = k) || !Qfh R k j) T.out (by rw [ha]; simp))
       rw [ha] at HA
       replace hjk:=lH hjk
       clear ha
       go_wp2_with (refine Qbn (by kernel_rfl) 42 _ (by rfl) gb 1 (by rfl) _ _ RB.out Qcs rfl Qdg ?_)
       refine HA.out.mono ?_
       rintro e w3 ⟨rfl,b3⟩
       have B3:=lH (Qaa B.out b3)
       clear b3 y0
       go_wp2_with fail
       go_roundw
       case rel => exact ⟨j + 1,by omega,by go_num,T2.out,B3.out⟩
       case measure => simp [intOf]; omega
      ·have T2:=lH (N.out.trans (allR_false hlt (by rw [ha,dqF hjk]; rfl)))
       rw [ha] at HA
       replace hjk:=lH hjk
       clear ha
       go_wp2_with (refine Qbn (by kernel_rfl) 42 _ (by rfl) gb 1 (by rfl) _ _ RB.out Qcs rfl Qdg ?_)
       refine HA.out.mono ?_
       rintro e w3 ⟨rfl,b3⟩
       have B3:=lH (B0.out.trans ((Qaa B.out b3).mono B0.out.size))
       clear b3 y0
       go_wp2_with fail
       go_ret
       exact ⟨Qag T2.out.symm,B3.out⟩
    ·have hlj : ¬ (j : Int) < (n : Int):=by omega
     have T2 : Hid (firmR R n ((k : Nat) : Int) = true):=by
      rw [Hid,N.out]
      have h1:=T.out
      rw [show j = n by omega] at h1
      exact h1
     have BF:=lH (B0.out.trans (B.out.mono B0.out.size))
     go_wp2_with fail
     go_ret
     exact ⟨Qag T2.out.symm,BF.out⟩
  ·have N:=lH (EO.out (by omega))
   have d1 : decide ((n : Int) ≤ (k : Int)) = true:=dqT (by omega)
   have d1' : decide (n ≤ k) = true:=dqT (by omega)
   clear EI EO HR
   go_wp2_with fail
   go_ret
   exact ⟨Qag N.out.symm,B0.out⟩
end Go.Proofs.YtdafiipedlglpaaGreat

/- The document's lines of a file: walked. -/
namespace Go.Proofs.YtdafiipedlglpaaGreat
open Go.RowKit

theorem index1E21o (g o : Nat) (w : World) : (Instr.indexAt 88 (.pointer (some ⟨g,o,none⟩)) (.int .i64 1)).run Tryz.prog w = .ok (.pointer (some ⟨g,o + 3,none⟩)) w:=by simp [go_sem]
theorem indexEdL (b o n c k : Nat) (hk : k < n) (w : World) : (Instr.indexAt 85 (.slice (some ⟨b,o,none⟩) n c) (.int .i64 ((k : Nat) : Int))).run Tryz.prog w = .ok (.pointer (some ⟨b,o + k * 6,none⟩)) w:=by
 have h0 : (0 : Int) ≤ (k : Int):=by omega
 have h1 : (k : Int) < (n : Int):=by omega
 simp [go_sem,h0,h1]
theorem allocSh (w : World) : (Instr.alloc 44 true (.tuple #[])).run Tryz.prog w = .ok (.pointer (some ⟨w.heap.size,0,none⟩)) (w.alloc (.cells #[.slice none 0 0,.int .i64 0,.slice none 0 0] 44)):=by kernel_rfl
theorem buildSh21 (Al : Option Addr) (nl cl n : Nat) (A : Option Addr) (m c : Nat) (w : World) : (Instr.build 44 #[(0,.slice Al nl cl),(1,.agg (Qch n A m c))]).run Tryz.prog w = .ok (.agg (shV Al nl cl n A m c).toArray) w:=by kernel_rfl
theorem shV_one {Al : Option Addr} {nl cl n : Nat} {A : Option Addr} {m c : Nat} : (shV Al nl cl n A m c).toArray.all (·.oneCell') = true:=by simp [shV,Value.oneCell']
def intS (S : List (Nat × Nat)) : List (Int × Int):=S.map fun x => ((x.1 : Int),(x.2 : Int))
theorem intS_len (S : List (Nat × Nat)) : (intS S).length = S.length:=List.length_map ..
theorem intS_enc (S : List (Nat × Nat)) : (intS S).flatMap encI = S.flatMap encS:=by unfold intS; rw [List.flatMap_map]; rfl
theorem intS_ok {n : Nat} : ∀ {S : List (Nat × Nat)},(∀ x ∈ S,x.1 < n ∧ x.2 < n) → okS n (intS S) = S
 | [],_ => rfl
 | x :: S,h => by
  have h1:=h x (by simp)
  have h2:=intS_ok (n:=n) (S:=S) fun y hy => h y (List.mem_cons_of_mem _ hy)
  unfold okS intS at *
  rw [List.map_cons,List.filterMap_cons]
  rw [if_pos (by omega)]
  simp only [Int.toNat_natCast]
  rw [h2]
theorem Qfr {w : World} {g size n : Nat} {A : Option Addr} {xs : List Value} {cs : Array Value} (h : Sl w w.heap.size size A n xs) (hne : ∀ o,A = some ⟨g,o,none⟩ → 0 < n → False) : Sl (w.setRow g cs) (w.setRow g cs).heap.size size A n xs:=
 ⟨h.1,fun hn => by
  obtain ⟨b,o,e,hb,hc⟩:=h.2 hn
  exact ⟨b,o,e,by simpa using hb,fun j hj => (World.cell?_of_block (a:=⟨b,o + j,none⟩) (setRow_other w g b cs fun e' => hne o (by rw [e,e']) hn)).trans (hc j hj)⟩⟩
theorem far_steps {w : World} {g : Nat} {t : TypeId} {p q r s : Nat} {A B C : Option Addr} {S : List (Nat × Nat)} {z : Int} (K : Blk w g t #[.slice B p q,.int .i64 z,.slice C r s]) (h : Sl w w.heap.size 2 A S.length (S.flatMap encS)) : ∀ o,A = some ⟨g,o,none⟩ → 0 < S.length → False:=fun o e hn => by
 obtain ⟨b',o',e',hb,hc⟩:=h.2 hn
 rw [e] at e'
 cases e'
 cases S with
 | nil => simp at hn
 | cons x S =>
  have h0:=(hc 0 (by rw [List.length_cons]; omega)).symm.trans (K.cell (o + 0))
  have h1:=(hc 1 (by rw [List.length_cons]; omega)).symm.trans (K.cell (o + 1))
  match o,h0,h1 with
  | 0,h0,h1 => simp [encS] at h0
  | 1,h0,h1 => simp [encS] at h1
  | o + 2,h0,h1 => simp [encS] at h1
theorem far_verts {w : World} {g n : Nat} {t : TypeId} {z : Array Value} {A : Option Addr} {X : List Qa4} (K : Blk w g t z) (hz : z.size = 3) (hl : X.length = n) (h : Sl w w.heap.size 9 A n (X.flatMap encX)) : ∀ o,A = some ⟨g,o,none⟩ → 0 < n → False:=fun o e hn => by
 obtain ⟨b',o',e',hb,hc⟩:=h.2 hn
 rw [e] at e'
 cases e'
 cases X with
 | nil => simp at hl; omega
 | cons x X =>
  have h5:=(hc 5 (by omega)).symm.trans (K.cell (o + 5))
  rw [Array.getElem?_eq_none (by omega)] at h5
  simp [encX] at h5
def RetRSheet (w : World) (X : List Qa4) (R : Nat → Nat → Bool) (e : Ending) (w' : World) : Prop:=∃ v,e = .returned v ∧ RSheet w' v X R ∧ Below w.heap.size w w'
set_option maxRecDepth 100000 in
set_option maxHeartbeats 8000000 in
theorem rlof_any {L : List PatV} (hG : GrOk L) (w : World) (A : Option Addr) (nn c : Nat) (h : PatsAt w A nn L) (hn3 : nn ≤ 300) (v : VidV) {R : Nat → Nat → Bool} (hR : ∀ a b,R a b = true ↔ ViaL (Qh0 L v) a b) :
  Calls Tryz.prog 10 #[.agg #[.slice A nn c],.agg (encV v).toArray] w (RetRSheet w (Qdf L v) R):=by
 have h200 : ∀ p ∈ L,p.2.2.length ≤ 200:=fun p hp => hG.few hp
 obtain ⟨hlx,hle⟩:=lines_few hG (by rw [h.len]; exact hn3) v
 have hin:=lH (fun e (he : e ∈ Qef L v) => steps_in hG he)
 have hSN:=lH (stepsN_lt (f:=v) hG)
 have ES : Hid (Qh0 L v = (Qef L v).map fun e => (posL (Qdf L v) e.1,posL (Qdf L v) e.2)):=rfl
 have HR:=lH hR
 have KG : Hid (Blk (((w.alloc (.cells #[.slice A nn c] 33)).alloc (.cells (encV v).toArray 27)).alloc (.cells #[.slice none 0 0,.int .i64 0,.slice none 0 0] 44)) w.heap.size 33 #[.slice A nn c]):=((Blk.new _ _ _).alloc _).alloc _
 have KV : Hid (Blk (((w.alloc (.cells #[.slice A nn c] 33)).alloc (.cells (encV v).toArray 27)).alloc (.cells #[.slice none 0 0,.int .i64 0,.slice none 0 0] 44)) (w.heap.size + 1) 27 (encV v).toArray):=(Blk.newAt (by simp) _ _).alloc _
 have KS : Hid (Blk (((w.alloc (.cells #[.slice A nn c] 33)).alloc (.cells (encV v).toArray 27)).alloc (.cells #[.slice none 0 0,.int .i64 0,.slice none 0 0] 44)) (w.heap.size + 1 + 1) 44 #[.slice none 0 0,.int .i64 0,.slice none 0 0]):=Blk.newAt (by simp) _ _
 have B0 : Hid (Below w.heap.size w (((w.alloc (.cells #[.slice A nn c] 33)).alloc (.cells (encV v).toArray 27)).alloc (.cells #[.slice none 0 0,.int .i64 0,.slice none 0 0] 44))):=(((Below.refl _ _).alloc (Nat.le_refl _) _).alloc (by simp) _).alloc (by simp; omega) _
 have HO:=lH (fun (u : World) (hu : Below w.heap.size w u) => rof20_any L u A nn c (h.ext hu) (by omega) h200 v 3)
 have HO : Hid (∀ (u : World) (hu : Below w.heap.size w u),Calls Tryz.prog 38 #[.agg #[.slice A nn c],.agg (encV v).toArray,.int .u8 3] u (OwnedRet u 56 9 (Qdf L v).length ((Qdf L v).flatMap encX))):=HO.out
 have HS:=lH (fun (u : World) (hu : Below w.heap.size w u) => rsteps20_any L u A nn c (h.ext hu) (by omega) h200 v)
 clear h hR h200 hG
 generalize Qdf L v = X at *
 generalize Qef L v = Y at *
 generalize Qh0 L v = S at *
 obtain ⟨n,hn⟩ : ∃ n,n = X.length:=⟨_,rfl⟩
 rw [← hn] at HO hlx
 replace hn:=lH hn
 obtain ⟨m,hm⟩ : ∃ m,m = Y.length:=⟨_,rfl⟩
 rw [← hm] at HS hle
 replace hm:=lH hm
 go_enter Tryz.func10,Tryz.ntmps10
 go_upto_region 1 with (refine Qam (allocSh _) ?_)
 rw [show ((w.alloc (.cells #[.slice A nn c] 33)).alloc (.cells (encV v).toArray 27)).heap.size = w.heap.size + 1 + 1 by simp]
 simp only [Act.put,sqA,sq0,sqS]
 generalize (((w.alloc (.cells #[.slice A nn c] 33)).alloc (.cells (encV v).toArray 27)).alloc (.cells #[.slice none 0 0,.int .i64 0,.slice none 0 0] 44)) = w2 at *
 obtain ⟨gr,hgr⟩ : ∃ g,g = w.heap.size + 1 + 1:=⟨_,rfl⟩
 obtain ⟨gv,hgv⟩ : ∃ g,g = w.heap.size + 1:=⟨_,rfl⟩
 obtain ⟨gg,hgg⟩ : ∃ g,g = w.heap.size:=⟨_,rfl⟩
 rw [← hgr] at KS ⊢
 rw [← hgv] at KV ⊢
 rw [← hgg] at KG ⊢
 replace hgr:=lH hgr
 replace hgv:=lH hgv
 replace hgg:=lH hgg
 go_wp2_with (first
  | (refine wpList_load_row rfl 33 _ (by rfl) gg (by rfl) _ _ _ _ KG.out Qbx rfl Qa9 ?_)
  | (refine wpList_load_row rfl 27 _ (by rfl) gv (by rfl) _ _ _ _ KV.out Qaj rfl Qal ?_))
 refine (HO.out w2 B0.out).mono ?_
 rintro e w3 ⟨_,rfl,o3,b3⟩
 obtain ⟨Al,cl,rfl,_,v3⟩:=VertsAt.of_own o3 hn.out.symm
 have VA3:=lH v3
 have KG3:=lH (KG.out.ext b3)
 have KV3:=lH (KV.out.ext b3)
 have KS3:=lH (KS.out.ext b3)
 have B3:=lH (B0.out.trans (b3.mono B0.out.size))
 clear o3 b3 v3 HO KG KV KS B0
 go_wp2_with (first
  | (refine wpList_load_row rfl 33 _ (by rfl) gg (by rfl) _ _ _ _ KG3.out Qbx rfl Qa9 ?_)
  | (refine wpList_load_row rfl 27 _ (by rfl) gv (by rfl) _ _ _ _ KV3.out Qaj rfl Qal ?_))
 refine (HS.out w3 B3.out).mono ?_
 rintro e w5 ⟨_,rfl,o5,b5⟩
 obtain ⟨Ae,ce,rfl,_,v5⟩:=EdgesAt.of_own o5 hm.out.symm
 have EA:=lH v5
 have VA5:=lH (VA3.out.ext b5)
 have KS5:=lH (KS3.out.ext b5)
 have B5:=lH (B3.out.trans (b5.mono B3.out.size))
 clear o5 v5 b5 HS KG3 KV3 KS3 VA3 B3
 have hSl : Hid (S.length = m):=by rw [Hid,ES.out,List.length_map,hm.out]
 have BS:=lH (Below.refl w5.heap.size w5)
 go_wp2_with fail
 go_loopw [8,7] (fun iv sv wr => ∃ (k : Nat) (s0 : Value),k ≤ m ∧ iv = .int .i64 k ∧ s0 = sv ∧ Hid (wr.ownsRow w5.heap.size 89 2 s0 (S.take k).length ((S.take k).flatMap encS)) ∧ Hid (Below w5.heap.size w5 wr)) (fun iv _ _ => m - (intOf iv).toNat)
 case atStart => exact ⟨0,_,by omega,rfl,rfl,World.ownsRow_nil _ _ _ _,BS.out⟩
 case round =>
  clear BS
  obtain ⟨k,v0,hk,rfl,rfl,OW,B⟩:=hrel
  obtain ⟨wi,rfl⟩ : ∃ wx,wx = wr:=⟨_,rfl⟩
  have hk0 : (0 : Int) ≤ (k : Int):=by omega
  by_cases hlt : k < m
  ·have hlk : (k : Int) < (m : Int):=by omega
   obtain ⟨b,o,e,rfl,hb,he,Re⟩:=EA.out.at_ hlt
   obtain ⟨hi1,hi2⟩:=hin.out e (List.mem_of_getElem? he)
   have NS : Hid (S.take (k + 1) = S.take k ++ [(posL X e.1,posL X e.2)]):=by
    rw [Hid,Qgp (x:=(posL X e.1,posL X e.2))]
    rw [ES.out,List.getElem?_map,he]
    rfl
   have HC1:=lH (fun (u : World) (hu : Below w5.heap.size w5 u) => rplace_any X u Al n cl (by omega) (VA5.out.ext hu) hn.out.symm e.1 hi1)
   have HC2:=lH (fun (u : World) (hu : Below w5.heap.size w5 u) => rplace_any X u Al n cl (by omega) (VA5.out.ext hu) hn.out.symm e.2 hi2)
   have hcP : ∀ args u,(callFunc 40 args).run Tryz.prog u = .ok (.enter 40 args) u:=enters_of Tryz.func40 (by kernel_rfl) rfl
   have IE:=lH (fun u => indexEdL b o m ce k hlt u)
   have hlen : (S.take k).length ≤ 60000:=by rw [List.length_take]; omega
   have D:=(Below.refl wi.heap.size wi).drew
   have OW7:=lH (Qap OW.out D)
   have BW7:=lH (B.out.trans (D.mono B.out.size))
   have R7:=lH (Qac Re BW7.out hb)
   have RE : Hid (∀ w',Kept (fun q => v0.ownBlock = some q) wi.drew w' → w'.rangeAt b (o + k * 6) (encE e)):=fun w' hk => Qde R7.out fun j => World.cell?_of_block (hk.block b (Nat.lt_of_lt_of_le hb BW7.out.size) fun e => Nat.not_lt.2 (OW7.out.lt b e).1 hb)
   clear Re hb he hi1 hi2 R7 OW B D
   generalize posL X e.1 = p1 at *
   generalize posL X e.2 = p2 at *
   go_wp2_with fail
   refine wp_region_held (S:=fun w' => Kept (fun q => v0.ownBlock = some q) wi.drew w') Qav ?_
   change wpAnyH _ _ _ _ _ _ _ _ wi.drew
   generalize wi.drew = w7 at *
   have B7 : Hid (Kept (fun q => v0.ownBlock = some q) w7 w7):=Kept.refl _ _
   simp only [List.size_toArray,List.length_cons,List.length_nil]
   refine Qai 0 21 (v0) rfl (fun _ _ => Qax (v:=v0) rfl) B7.out ?_
   simp only [Act.put,sqA,sq0,sqS]
   refine Qai 1 22 (.slice Al n cl) rfl (fun _ _ => Qax (v:=.slice Al n cl) rfl) B7.out ?_
   simp only [Act.put,sqA,sq0,sqS]
   refine Qai 2 23 (.slice (some ⟨b,o,none⟩) m ce) rfl (fun _ _ => Qax (v:=.slice (some ⟨b,o,none⟩) m ce) rfl) B7.out ?_
   simp only [Act.put,sqA,sq0,sqS]
   refine Qai 3 24 (.int .i64 (k : Int)) rfl (fun _ _ => Qax (v:=.int .i64 (k : Int)) rfl) B7.out ?_
   simp only [Act.put,sqA,sq0,sqS]
   refine Qai 4 25 (.pointer (some ⟨b,o + k * 6,none⟩)) rfl (fun w' _ => Qc3 rfl rfl (IE.out w')) B7.out ?_
   simp only [Act.put,sqA,sq0,sqS]
   refine Qai 5 26 (.pointer (some ⟨b,o + k * 6,none⟩)) rfl (fun w' _ => Qc3 rfl rfl (index0E20 b (o + k * 6) w')) B7.out ?_
   simp only [Act.put,sqA,sq0,sqS]
   refine Qai 6 27 (.agg (encV e.1).toArray) rfl (fun w' h => Qb3 rfl (e_fst (RE.out w' h)) Qaj rfl Qal) B7.out ?_
   simp only [Act.put,sqA,sq0,sqS]
   refine Qai 8 29 (.slice Al n cl) rfl (fun _ _ => Qax (v:=.slice Al n cl) rfl) B7.out ?_
   simp only [Act.put,sqA,sq0,sqS]
   refine Qai 9 30 (.slice (some ⟨b,o,none⟩) m ce) rfl (fun _ _ => Qax (v:=.slice (some ⟨b,o,none⟩) m ce) rfl) B7.out ?_
   simp only [Act.put,sqA,sq0,sqS]
   refine Qai 10 31 (.int .i64 (k : Int)) rfl (fun _ _ => Qax (v:=.int .i64 (k : Int)) rfl) B7.out ?_
   simp only [Act.put,sqA,sq0,sqS]
   refine Qai 11 32 (.pointer (some ⟨b,o + k * 6,none⟩)) rfl (fun w' _ => Qc3 rfl rfl (IE.out w')) B7.out ?_
   simp only [Act.put,sqA,sq0,sqS]
   refine Qai 12 33 (.pointer (some ⟨b,o + k * 6 + 3,none⟩)) rfl (fun w' _ => Qc3 rfl rfl (index1E21o b (o + k * 6) w')) B7.out ?_
   simp only [Act.put,sqA,sq0,sqS]
   refine Qai 13 34 (.agg (encV e.2).toArray) rfl (fun w' h => Qb3 rfl (e_snd (RE.out w' h)) Qaj rfl Qal) B7.out ?_
   simp only [Act.put,sqA,sq0,sqS]
   refine oneH 7 ?_
   refine Qae rfl rfl (Qao (args:=#[.slice Al n cl,.agg (encV e.1).toArray]) hcP (by simp only [sqM,sqC,sqN]; rfl) (HC1.out w7 BW7.out) ?_)
   rintro e w_1 ⟨rfl,h_2⟩
   refine ⟨_,rfl,B7.out.then h_2, ?_⟩
   simp only [Act.put,sqA,sq0,sqS]
   have B_3:=lH (B7.out.then h_2)
   have F_4:=lH (Qap OW7.out h_2)
   have F_5:=lH (BW7.out.trans (h_2.mono BW7.out.size))
   clear B7 OW7 BW7
   clear h_2
   refine oneH 14 ?_
   refine Qae rfl rfl (Qao (args:=#[.slice Al n cl,.agg (encV e.2).toArray]) hcP (by simp only [sqM,sqC,sqN]; rfl) (HC2.out w_1 F_5.out) ?_)
   rintro e w_6 ⟨rfl,h_7⟩
   refine ⟨_,rfl,B_3.out.then h_7, ?_⟩
   simp only [Act.put,sqA,sq0,sqS]
   have B_8:=lH (B_3.out.then h_7)
   have F_9:=lH (Qap F_4.out h_7)
   have F_10:=lH (F_5.out.trans (h_7.mono F_5.out.size))
   clear B_3 F_4 F_5
   clear h_7
   refine Qai 15 36 ((.agg (encS (p1,p2)).toArray)) rfl (fun w' _ => Qbq (vs:=#[(0,.int .i64 ((p1 : Nat) : Int)),(1,.int .i64 ((p2 : Nat) : Int))]) (by simp only [sqM,sqC,sqN]; rfl) (buildS2 p1 p2 w')) B_8.out ?_
   simp only [Act.put,sqA,sq0,sqS]
   refine oneH 16 ?_
   have L_14 : Hid (Blk (w_6.alloc (.cells (encS (p1,p2)).toArray 89)) w_6.heap.size 89 (encS (p1,p2)).toArray):=Blk.new _ _ _
   have h_12 : Below w_6.heap.size w_6 (w_6.alloc (.cells (encS (p1,p2)).toArray 89)):=Qaf _ _
   refine Qae rfl rfl (Qd0 stepSl (cs:=(encS (p1,p2))) rfl (by omega) rfl ?_)
   refine ⟨B_8.out.then h_12, ?_⟩
   simp only [Act.put,sqA,sq0,sqS]
   generalize (w_6.alloc (.cells (encS (p1,p2)).toArray 89)) = w_11 at *
   have B_15:=lH (B_8.out.then h_12)
   have F_16:=lH (Qap F_9.out h_12)
   have F_17:=lH (F_10.out.trans (h_12.mono F_10.out.size))
   clear B_8 F_9 F_10
   clear h_12
   generalize w_6.heap.size = g_13 at *
   refine oneH 17 ?_
   refine Qae rfl rfl (Qb7 stepSl F_16.out (Qd1 L_14.out rfl) (by simp [encS,Value.oneCell']) F_17.out.size (by omega) (by unfold maxLen; omega) rfl rfl ?_)
   intro v_19 w_18 o_20 k_21 hv_22
   have O_23:=lH o_20
   have B_24:=lH (F_17.out.trans (k_21.below (fun q e => (F_16.out.lt q e).1) F_17.out.size))
   have B_25:=lH (B_15.out.trans k_21 fun x e => .inl e)
   refine ⟨B_25.out, ?_⟩
   simp only [Act.put,sqA,sq0,sqS]
   clear o_20 k_21 hv_22 B_15 F_16 F_17 L_14
   refine Qai 18 7 (v_19) rfl (fun _ _ => Qby (v:=v_19) rfl) B_25.out ?_
   simp only [Act.put,sqA,sq0,sqS]
   refine wpAnyH_done (by kernel_rfl) ?_ _
   have O9 : Hid (w_18.ownsRow w5.heap.size 89 2 v_19 (S.take (k + 1)).length ((S.take (k + 1)).flatMap encS)):=by
    rw [Hid,NS.out,List.length_append,List.flatMap_append]; simpa using O_23.out
   have B9:=B_24
   clear O_23 B_25
   go_wp2_with fail
   go_roundw
   case rel => exact ⟨k + 1,_,by omega,by go_num,rfl,O9.out,B9.out⟩
   case measure => simp [intOf]; omega
  ·have hlk : ¬ (k : Int) < (m : Int):=by omega
   rw [List.take_of_length_le (by rw [hSl.out]; omega)] at OW
   obtain ⟨Ao,co,rfl,_,so⟩:=Sl.of_own OW.out
   have BW:=lH (B5.out.trans (B.out.mono B5.out.size))
   have KSi:=lH (KS5.out.ext B.out)
   have VAi:=lH (VA5.out.ext B.out)
   have HO8:=rof8_any (w:=wi) (n:=n) (c:=co) (by omega) (L:=intS S) (A:=Ao) (by rw [intS_enc,intS_len]; exact so) (by rw [intS_len]; have:=hSl.out; omega)
   rw [intS_ok (fun x hx => by rw [hn.out]; exact hSN.out x hx),intS_len] at HO8
   have HO8:=lH HO8
   clear so OW VA5 KS5 B5 B
   go_wp2_with fail
   refine HO8.out.mono ?_
   rintro e w8 h8
   obtain ⟨A8,c8,rfl,s8,b8⟩:=h8
   have R8 : Hid (R8At w8 (.agg (Qch n A8 S.length c8)) n R):=⟨by omega,A8,c8,S,rfl,by have:=hSl.out; omega,s8,HR.out,fun x hx => by rw [hn.out]; exact hSN.out x hx⟩
   have KS8:=lH (KSi.out.ext b8)
   have VA8:=lH (VAi.out.ext b8)
   have B8:=lH (BW.out.trans (b8.mono BW.out.size))
   clear s8 b8 HO8 KSi VAi BW
   generalize S.length = ns at *
   have hsz : (Tryz.prog.info? 44).map (·.size) = some (shV Al n cl n A8 ns c8).toArray.size:=Qfo
   go_wp2_with (first
    | (refine Qhx (v1:=.slice Al n cl) (v2:=.agg (Qch n A8 ns c8)) rfl rfl (buildSh21 Al n cl n A8 ns c8 _) ?_)
    | (refine wpList_store_row rfl 44 _ _ (by rfl) gr (shV Al n cl n A8 ns c8).toArray (by rfl) (by rfl) _ _ KS8.out hsz rfl shV_one ?_))
   have KF:=lH (KS8.out.row (shV Al n cl n A8 ns c8).toArray)
   have BF : Hid (Below w.heap.size w (w8.setRow gr (shV Al n cl n A8 ns c8).toArray)):=Qad B8.out (by rw [hgr.out]; omega) _
   have VF : Hid (VertsAt (w8.setRow gr (shV Al n cl n A8 ns c8).toArray) Al n X):=⟨hn.out.symm,Qfr VA8.out.2 (far_verts KS8.out rfl hn.out.symm VA8.out.2)⟩
   have RF : Hid (R8At (w8.setRow gr (shV Al n cl n A8 ns c8).toArray) (.agg (Qch n A8 ns c8)) n R):=by
    obtain ⟨k0,A9,c9,L9,e9,k1,k2,k3,k4⟩:=R8.out
    refine ⟨k0,A9,c9,L9,e9,k1, ?_,k3,k4⟩
    exact Qfr k2 (far_steps KS8.out k2)
   refine bodyPost_ret (v:=.agg (shV Al n cl n A8 ns c8).toArray) (results_cell_row rfl _ _ gr 44 _ (0,0) _ (by rfl) KF.out Qg1 rfl Qfo) rfl ?_
   refine ⟨_,rfl, ?_,BF.out⟩
   have h1:=VF.out
   have h2:=RF.out
   rw [hn.out] at h1 h2 ⊢
   exact ⟨Al,cl,A8,ns,c8,rfl,h1,h2⟩
end Go.Proofs.YtdafiipedlglpaaGreat

/- The document's graph of patches: walked (bruitlaw21.Model). -/
namespace Go.Proofs.YtdafiipedlglpaaGreat
open Go.RowKit

def RetModel (w : World) (L : List PatV) (e : Ending) (w' : World) : Prop:=∃ A c,e = .returned (.agg #[.slice A L.length c]) ∧ PatsAt w' A L.length L ∧ Below w.heap.size w w'
set_option maxRecDepth 100000 in
set_option maxHeartbeats 8000000 in
theorem rmodel21_any (w : World) (l : List PatV) (A : Option Addr) (n c : Nat) (hn : n ≤ 1000) (h : PatsAt w A n l) : Calls Tryz.prog 7 #[.slice A n c] w (RetModel w (runG [] l)):=by
 have H4:=lH h
 have hln:=lH h.len
 have KR0 : Hid (Blk ((w.alloc (.cells #[.slice none 0 0] 33)).alloc (.cells #[.slice none 0 0] 33)) w.heap.size 33 #[.slice none 0 0]):=(Blk.new _ _ _).alloc _
 have KX0 : Hid (Blk ((w.alloc (.cells #[.slice none 0 0] 33)).alloc (.cells #[.slice none 0 0] 33)) (w.heap.size + 1) 33 #[.slice none 0 0]):=Blk.newAt (by simp) _ _
 have B0 : Hid (Below w.heap.size w ((w.alloc (.cells #[.slice none 0 0] 33)).alloc (.cells #[.slice none 0 0] 33))):=((Below.refl _ _).alloc (Nat.le_refl _) _).alloc (by simp) _
 clear h
 go_enter Tryz.func7,Tryz.ntmps7
 go_upto_region 2 with fail
 generalize ((w.alloc (.cells #[.slice none 0 0] 33)).alloc (.cells #[.slice none 0 0] 33)) = w5 at *
 obtain ⟨gx,hgx⟩ : ∃ g,g = w.heap.size + 1:=⟨_,rfl⟩
 obtain ⟨gr,hgr⟩ : ∃ g,g = w.heap.size:=⟨_,rfl⟩
 rw [← hgx] at KX0 ⊢
 have hgw : Hid (w.heap.size ≤ gr):=by rw [Hid,hgr]; exact Nat.le_refl _
 have hgw2 : Hid (w.heap.size ≤ gx):=by rw [Hid,hgx]; omega
 have hxr : Hid (gr ≠ gx):=by rw [Hid,hgr,hgx]; omega
 rw [← hgr] at KR0 ⊢
 have hx4 : Hid (gx < w5.heap.size):=KX0.out.lt
 have hr4 : Hid (gr < w5.heap.size):=KR0.out.lt
 clear hgx hgr
 have BNx:=lH B0.out
 have hcA : ∀ args u,(callFunc 28 args).run Tryz.prog u = .ok (.enter 28 args) u:=enters_of Tryz.func28 (by kernel_rfl) rfl
 go_wp2_with fail
 go_loopw [4] (fun i wr => ∃ (k : Nat) (Ax : Option Addr) (cx : Nat) (L : List PatV),k ≤ n ∧ i = .int .i64 k ∧ Hid (L = runG [] (l.take k)) ∧ Hid (Kept (fun q => q = gx) w5 wr) ∧ Hid (Blk wr gx 33 #[.slice Ax L.length cx]) ∧ Hid (PatsIn wr (fun q => q ≠ gx ∧ q ≠ gr) Ax L.length L) ∧ Hid (Below w.heap.size w wr)) (fun i _ => n - (intOf i).toNat)
 case atStart => exact ⟨0,none,0,[],by omega,rfl,rfl,Kept.refl _ _,KX0.out,pats_nil _ _,B0.out⟩
 case round =>
  clear KX0 B0
  obtain ⟨k,Ax,cx,L,hk,rfl,hL,KW,KX,PX,B⟩:=hrel
  obtain ⟨wi,rfl⟩ : ∃ wx,wx = wr:=⟨_,rfl⟩
  have hk0 : (0 : Int) ≤ (k : Int):=by omega
  have hLn : Hid (L.length ≤ 1000):=by have:=runG_take_len l k; rw [← hL.out,hln.out] at this; rw [Hid]; omega
  by_cases hlt : k < n
  ·have hlk : (k : Int) < (n : Int):=by omega
   obtain ⟨b,o,p,r,rfl,hb,hp,pa,R⟩:=H4.out.at_ hlt
   have PA0:=lH pa
   obtain ⟨⟨A1,c1,A2,c2,rfl,_,_⟩,_,_⟩:=pa
   have hGO : GrOk L:=by rw [hL.out]; exact runG_ok _ _ .nil
   have ELq:=refL_eq hGO p
   have RP : Hid (wi.rangeAt b (o + k * 4) (patC p.1 A1 p.2.1.length c1 A2 p.2.2.length c2)):=by
    have h1:=Qac R BNx.out hb
    exact Qde h1 fun j => World.cell?_of_block (KW.out.block b (Nat.lt_of_lt_of_le hb BNx.out.size) (fun e => by have e : b = gx:=e; have:=hgw2.out; omega))
   have hbl : Hid (b < wi.heap.size):=Nat.lt_of_lt_of_le (Nat.lt_of_lt_of_le hb BNx.out.size) KW.out.size
   have NL : Hid (refL L p = runG [] (l.take (k + 1))):=by rw [Hid,ELq,runG_snoc [] hp,← hL.out]
   have HN : Hid (∀ q,wi.heap.size ≤ q → q ≠ gx ∧ q ≠ gr):=fun q e => ⟨fun e2 => by have:=KX.out.lt; omega,fun e2 => by have:=hr4.out; have:=KW.out.size; omega⟩
   have PIN : Hid (PatIn wi (fun q => (q ≠ gx ∧ q ≠ gr) ∧ q < wi.heap.size) (patC p.1 A1 p.2.1.length c1 A2 p.2.2.length c2) p):=by
    have h1 : PatIn w5 (fun q => q < w.heap.size) (patC p.1 A1 p.2.1.length c1 A2 p.2.2.length c2) p:=PA0.out.in_.ext BNx.out
    exact (h1.stay (KW.out.stay fun q _ h e => by have e : q = gx:=e; have:=hgw2.out; omega)).mono fun q e => ⟨⟨fun e2 => by have:=hgw2.out; omega,fun e2 => by have:=hgw.out; omega⟩,by have:=BNx.out.size; have:=KW.out.size; omega⟩
   have PXB:=lH PX.out.both20
   have HA:=lH (fun (u : World) (hu : Below wi.heap.size wi u) => rapply20_any L p u (fun q => (q ≠ gx ∧ q ≠ gr) ∧ q < wi.heap.size) (fun q e => Nat.lt_of_lt_of_le e.2 hu.size) Ax L.length cx (PXB.out.ext hu) _ (PIN.out.ext hu) (by have:=hLn.out; omega))
   have HIX : Hid (∀ u : World,(Instr.indexAt 22 (.slice (some ⟨b,o,none⟩) n c) (.int .i64 ((k : Nat) : Int))).run Tryz.prog u = .ok (.pointer (some ⟨b,o + k * 4,none⟩)) u):=fun u => indexPats20r b o n c k hlt u
   clear R hb hp PX ELq hGO
   go_upto_region 5 with fail
   refine Qe0 (S:=fun w' => Below wi.heap.size wi w') (Z:=[9]) Qav ?_
   have B5 : Hid (Below wi.heap.size wi wi.drew):=(Below.refl _ _).drew
   change Qdu _ _ _ _ _ _ _ _ _ wi.drew
   generalize wi.drew = w5x at B5 ⊢
   simp only [List.size_toArray,List.length_cons,List.length_nil]
   refine zV (i:=0) rfl (by kernel_rfl) (by kernel_rfl) (by kernel_rfl) (by kernel_rfl) (by kernel_rfl) (fun _ _ _ h => h) rfl (fun w' h => Qb3 rfl (Qau (cs:=[.slice Ax L.length cx]) (KX.out.ext h)) Qbx rfl Qa9) B5.out ?_
   simp only [Act.put,sqA,sq0,sqS]
   refine zV (i:=1) rfl (by kernel_rfl) (by kernel_rfl) (by kernel_rfl) (by kernel_rfl) (by kernel_rfl) (fun _ _ _ h => h) rfl (fun w' h => Qax (v:=.slice (some ⟨b,o,none⟩) n c) rfl) B5.out ?_
   simp only [Act.put,sqA,sq0,sqS]
   refine zV (i:=2) rfl (by kernel_rfl) (by kernel_rfl) (by kernel_rfl) (by kernel_rfl) (by kernel_rfl) (fun _ _ _ h => h) rfl (fun w' h => Qax (v:=.int .i64 ((k : Nat) : Int)) rfl) B5.out ?_
   simp only [Act.put,sqA,sq0,sqS]
   refine zV (i:=3) rfl (by kernel_rfl) (by kernel_rfl) (by kernel_rfl) (by kernel_rfl) (by kernel_rfl) (fun _ _ _ h => h) rfl (fun w' h => Qc3 rfl rfl (HIX.out w')) B5.out ?_
   simp only [Act.put,sqA,sq0,sqS]
   refine zV (i:=4) rfl (by kernel_rfl) (by kernel_rfl) (by kernel_rfl) (by kernel_rfl) (by kernel_rfl) (fun _ _ _ h => h) rfl (fun w' h => Qb3 rfl (Qac RP.out h hbl.out) Qbf rfl Qa7) B5.out ?_
   simp only [Act.put,sqA,sq0,sqS]
   refine Qcy (rs:=[5]) (by kernel_rfl) (by simp) ?_
   intro i hi
   simp only [List.mem_cons,List.not_mem_nil,or_false] at hi
   subst hi
   refine Qae rfl rfl (Qao (args:=#[.agg #[.slice Ax L.length cx],.agg (patC p.1 A1 p.2.1.length c1 A2 p.2.2.length c2).toArray]) hcA (by simp only [sqM,sqC,sqN]; rfl) (HA.out w5x B5.out) ?_)
   rintro e w6 ⟨Ay,cy,rfl,px,b6⟩
   have B6:=lH (Qaa B5.out b6)
   have PX6 : Hid (PatsIn w6 (fun q => q ≠ gx ∧ q ≠ gr) Ay (refL L p).length (refL L p)):=px.mono fun q e => e.elim (fun e => e.1) (fun e => HN.out q (Nat.le_trans B5.out.size e))
   refine ⟨_,rfl,fun _ => B6.out, ?_⟩
   simp only [Act.put,sqA,sq0,sqS]
   clear px b6 B5
   refine zV (i:=6) rfl (by kernel_rfl) (by kernel_rfl) (by kernel_rfl) (by kernel_rfl) (by kernel_rfl) (fun _ _ _ h => h) rfl (fun w' h => Qax (v:=.tuple #[.agg #[.slice Ay (refL L p).length cy],.int .i64 ((refK L p : Nat) : Int)]) rfl) B6.out ?_
   simp only [Act.put,sqA,sq0,sqS]
   refine zV (i:=7) rfl (by kernel_rfl) (by kernel_rfl) (by kernel_rfl) (by kernel_rfl) (by kernel_rfl) (fun _ _ _ h => h) rfl (fun w' h => Qa3 (v:=.agg #[.slice Ay (refL L p).length cy]) rfl rfl) B6.out ?_
   simp only [Act.put,sqA,sq0,sqS]
   refine Qgl (i:=8) rfl (by kernel_rfl) (by kernel_rfl) (by kernel_rfl) (by kernel_rfl) (fun _ _ _ h => h) rfl (fun w' => Qa3 (v:=.int .i64 ((refK L p : Nat) : Int)) rfl rfl) (fun _ => B6.out) ?_
   simp only [Act.put,sqA,sq0,sqS]
   have KX6:=lH (KX.out.ext B6.out)
   refine Qcy (rs:=[9]) (by kernel_rfl) (by simp) ?_
   intro i hi
   simp only [List.mem_cons,List.not_mem_nil,or_false] at hi
   subst hi
   refine Qae rfl rfl (Qay (cs:=#[.slice Ay (refL L p).length cy]) rfl rfl KX6.out Qa9 rfl (by simp [Value.oneCell']) ?_)
   refine ⟨noZ (by kernel_rfl), ?_⟩
   refine Qe1 (by kernel_rfl) ?_ _
   have KW6:=lH (KW.out.then B6.out)
   have B7:=lH (Qad (B.out.trans (B6.out.mono B.out.size)) hgw2.out #[.slice Ay (refL L p).length cy])
   have K7:=lH (KX6.out.row #[.slice Ay (refL L p).length cy])
   have P7:=lH (Qg3 (G:=fun q => q ≠ gx ∧ q ≠ gr) (PX6.out.mono fun q e => ⟨e.1,e⟩) #[.slice Ay (refL L p).length cy])
   have KW7:=lH (Kept.row20 (F:=fun q => q = gx) KW6.out (.inl rfl) #[.slice Ay (refL L p).length cy])
   clear KX6 B6 PX6 KW6 KX KW B PXB HA PIN HIX RP
   go_wp2_with fail
   go_roundw
   case rel => exact ⟨k + 1,Ay,cy,refL L p,by omega,by go_num,NL.out,KW7.out,K7.out,P7.out,B7.out⟩
   case measure => simp [intOf]; omega
  ·have hlk : ¬ (k : Int) < (n : Int):=by omega
   rw [List.take_of_length_le (by rw [hln.out]; omega)] at hL
   have KRi : Hid (Blk wi gr 33 #[.slice none 0 0]):=KW.out.blk KR0.out (fun e => hxr.out e)
   have PF:=lH (Qg3 (G:=fun _ => True) (PX.out.mono fun q e => ⟨e.2,trivial⟩) #[.slice Ax L.length cx]).at_
   have KF:=lH (KRi.out.row #[.slice Ax L.length cx])
   have BF:=lH (Qad B.out hgw.out #[.slice Ax L.length cx])
   have hsz : (Tryz.prog.info? 33).map (·.size) = some (#[.slice Ax L.length cx] : Array Value).size:=Qa9
   clear PX B KW KR0
   go_wp2_with (first
    | (refine wpList_load_row rfl 33 _ (by rfl) gx (by rfl) _ _ _ _ KX.out Qbx rfl Qa9 ?_)
    | (refine wpList_store_row rfl 33 _ _ (by rfl) gr #[.slice Ax L.length cx] (by rfl) (by rfl) _ _ KRi.out hsz rfl (by simp [Value.oneCell']) ?_))
   refine bodyPost_ret (v:=.agg #[.slice Ax L.length cx]) (results_cell_row rfl _ _ gr 33 _ (0,0) _ (by rfl) KF.out Qbx rfl Qa9) rfl ?_
   rw [← hL.out]
   exact ⟨Ax,cx,rfl,PF.out,BF.out⟩
end Go.Proofs.YtdafiipedlglpaaGreat

/- A sheet of lines beside the document's: what a store into a new variable leaves alone; comparisons: plain facts of memory. -/
namespace Go.Proofs.YtdafiipedlglpaaGreat
open Go.RowKit

theorem Qiy {w : World} {k k' : Nat} {t t' : TypeId} {cs cs' : Array Value} (h : Blk w k t cs) (h' : Blk w k' t' cs') (hne : t ≠ t') : k ≠ k':=fun e => by
 subst e
 unfold Blk at h h'
 rw [h] at h'
 injection h' with h'
 injection h' with _ ht _
 exact hne ht
theorem RelAt.keepR {w w' : World} {g n : Nat} {R : Nat → Nat → Bool} {F : Nat → Prop} (h : RelAt w g n R) (hk : Kept F w w') (hF : ∀ k,F k → ∃ cur,w.heap[k]? = some (.cells cur 44 (0,0))) : RelAt w' g n R:=by
 have nb : ∀ {k : Nat} {t : TypeId} {cs : Array Value},Blk w k t cs → t ≠ 44 → ¬ F k:=fun hb hne hf => by
  obtain ⟨cur,hc⟩:=hF _ hf
  exact Qiy hb (show Blk w _ 44 cur from hc) hne rfl
 have nm : ∀ {t : TypeId} {k : Nat} {l : List (Value × Value)},MapIs Tryz.prog t w k l → ¬ F k:=fun hm hf => by
  obtain ⟨cur,hc⟩:=hF _ hf
  obtain ⟨es,clock,hb,_⟩:=hm
  rw [hb] at hc; cases hc
 have no : ∀ {base size n k : Nat} {e : TypeId} {v : Value} {xs : List Value},w.ownsRow base e size v n xs → v.ownBlock = some k → e ≠ 44 → ¬ F k:=fun ho hv hne hf => by
  obtain ⟨cur,hc⟩:=Qel ho hv
  obtain ⟨cur2,hc2⟩:=hF _ hf
  exact Qiy (show Blk w _ _ cur from hc) (show Blk w _ _ cur2 from hc2) hne rfl
 obtain ⟨k0,gm8,T,k1,k2,k3⟩:=h
 exact ⟨k0,gm8,T,k1.keep (hk.block _ k1.lt (nb k1 (by decide))),⟨k2.map.keep (hk.block _ k2.map.lt (nm k2.map)),fun r hr => (k2.row r hr).keep (hk.block _ (k2.row r hr).lt.1 (nb (k2.row r hr).blk (by decide))) (hk.block _ (k2.row r hr).lt.2 (no (k2.row r hr).own rfl (by decide))),k2.cl,k2.lt,k2.ap⟩,k3⟩
theorem SheetAt.setRowT {w : World} {g k : Nat} {X : List Qa4} {R : Nat → Nat → Bool} {F : List Nat} {z : Array Value} (h : SheetAt w g X R F) (K : Blk w k 44 z) (hz : z.size = 3) (cs : Array Value) : SheetAt (w.setRow k cs) g X R F:=by
 obtain ⟨Al,cl,gr,Ao,co,h1,h2,h3,h4⟩:=h
 have hk : Kept (fun q => q = k) w (w.setRow k cs):=Kept.row20 (F:=fun q => q = k) (Kept.refl _ _) (.inl rfl) cs
 refine ⟨Al,cl,gr,Ao,co,hk.blk h1 fun e => Qiy h1 K (by decide) e,⟨h2.len,Qfr h2.sl (far_verts K hz h2.len h2.sl)⟩,h3.keepR hk (fun q e => by have e : q = k:=e; rw [e]; exact ⟨z,K⟩),Qcb h4 fun q e => ?_⟩
 refine hk.block q (h4.lt q e).2 fun e' => ?_
 have e' : q = k:=e'
 subst e'
 obtain ⟨cur,hc⟩:=Qel h4 e
 exact Qiy (show Blk w _ _ cur from hc) K (by decide) rfl
def RSheetV (w : World) (k : Nat) (X : List Qa4) (R : Nat → Nat → Bool) : Prop:=
 ∃ Al cl A m c,Blk w k 44 (shV Al X.length cl X.length A m c).toArray ∧ RSheet w (.agg (shV Al X.length cl X.length A m c).toArray) X R
theorem RSheet.stored {w : World} {k : Nat} {Al : Option Addr} {cl m c : Nat} {A : Option Addr} {X : List Qa4} {R : Nat → Nat → Bool} (K : Blk w k 44 #[.slice none 0 0,.int .i64 0,.slice none 0 0]) (h2 : VertsAt w Al X.length X) (h3 : R8At w (.agg (Qch X.length A m c)) X.length R) :
  RSheetV (w.setRow k (shV Al X.length cl X.length A m c).toArray) k X R:=by
 refine ⟨Al,cl,A,m,c,K.row _,Al,cl,A,m,c,rfl,⟨h2.len,Qfr h2.sl (far_verts K rfl h2.len h2.sl)⟩, ?_⟩
 obtain ⟨k0,A9,c9,L9,e9,k1,k2,k3,k4⟩:=h3
 exact ⟨k0,A9,c9,L9,e9,k1,Qfr k2 (far_steps K k2),k3,k4⟩
theorem neqN_self (a : Nat) (w : World) : (binOp .neq 3 (.int .i64 ((a : Nat) : Int)) (.int .i64 ((a : Nat) : Int))).run Tryz.prog w = .ok (.bool false) w:=by simp [go_sem]
theorem eqlI10 (w : World) : (binOp .eql 3 (.int .i64 1) (.int .i64 0)).run Tryz.prog w = .ok (.bool false) w:=by simp [go_sem]
theorem neqB_self (b : Bool) (w : World) : (binOp .neq 4 (.bool b) (.bool b)).run Tryz.prog w = .ok (.bool false) w:=by simp [go_sem]
theorem gdNeqN (x y : Operand) (a b : Int) (w : World) : (eqGuard .neq 3 x y (.int .i64 a) (.int .i64 b)).run Tryz.prog w = .ok () w:=by simp [eqGuard,go_sem]
theorem gdEqlN (x y : Operand) (a b : Int) (w : World) : (eqGuard .eql 3 x y (.int .i64 a) (.int .i64 b)).run Tryz.prog w = .ok () w:=by simp [eqGuard,go_sem]
theorem gdNeqB (x y : Operand) (a b : Bool) (w : World) : (eqGuard .neq 4 x y (.bool a) (.bool b)).run Tryz.prog w = .ok () w:=by simp [eqGuard,go_sem]
theorem gdNeqX (x y : Operand) (a b : Qa4) (w : World) : (eqGuard .neq 56 x y (.agg (encX a).toArray) (.agg (encX b).toArray)).run Tryz.prog w = .ok () w:=by
 unfold encX
 simp [eqGuard,go_sem]
theorem fieldRS0 (g : Nat) (w : World) : (Instr.fieldAt 44 (.pointer (some ⟨g,0,none⟩)) 0).run Tryz.prog w = .ok (.pointer (some ⟨g,0,none⟩)) w:=by simp [go_sem]
theorem indexXL (b o n c k : Nat) (hk : k < n) (w : World) : (Instr.indexAt 39 (.slice (some ⟨b,o,none⟩) n c) (.int .i64 ((k : Nat) : Int))).run Tryz.prog w = .ok (.pointer (some ⟨b,o + k * 9,none⟩)) w:=by
 have h0 : (0 : Int) ≤ (k : Int):=by omega
 have h1 : (k : Int) < (n : Int):=by omega
 simp [go_sem,h0,h1]
end Go.Proofs.YtdafiipedlglpaaGreat
