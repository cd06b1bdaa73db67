/- Texts of general use, one behind another. -/
import Derived.Test.YtdafiipedlglpaaGreatSets
import Derived.Test.YtdafiipedlglpaaGreatPidt
import Derived.Test.YtdafiipedlglpaaGreatGen

/- Names of vertices: packed, and held against each other. -/
namespace Go.Proofs.YtdafiipedlglpaaGreat
open Go.RowKit Go.Sort

abbrev VidV:=PidV × Fin 256
def encV (v : VidV) : List Value:=[.int .u8 ((v.1.1.val : Nat) : Int),.int .u16 ((v.1.2.val : Nat) : Int),.int .u8 ((v.2.val : Nat) : Int)]
def keyV (v : VidV) : Int:=keyP v.1 * 256 + ((v.2.val : Nat) : Int)
theorem keyP_bd (p : PidV) : 0 ≤ keyP p ∧ keyP p < 16777216:=by
 unfold keyP Qib
 have h1:=p.1.isLt
 have h2:=p.2.isLt
 omega
theorem Qg7 (x y : VidV) (h : keyV x = keyV y) : x = y:=by
 unfold keyV at h
 have h1:=x.2.isLt
 have h2:=y.2.isLt
 exact Prod.ext (keyP_inj _ _ (by omega)) (Fin.ext (by omega))
theorem Qdk (p : VidV) : (encV p).length = 3:=rfl
theorem Qc9 (p : VidV) : ∀ u ∈ encV p,u.oneCell' = true:=by
 intro u hu
 simp only [encV,List.mem_cons,List.not_mem_nil,or_false] at hu
 rcases hu with rfl | rfl | rfl <;> rfl
theorem Qaj : Tryz.prog.underlying 27 = some (.struct (Tryz.prog.fieldsOf 27)):=by kernel_rfl
theorem Qal : (Tryz.prog.info? 27).map (·.size) = some 3:=by kernel_rfl
theorem Qfq : SlT Tryz.prog 35 27 3 6:=Qh1 (z:=.agg #[.int .u8 0,.int .u16 0,.int .u8 0]) Tryz.underlying35 (by kernel_rfl) rfl (by omega)
theorem bits_vpack (p n : Int) (hp : 0 ≤ p ∧ p < 16777216) (hn : 0 ≤ n ∧ n < 256) : bits .or .u32 (p * 256) n = p * 256 + n:=by
 obtain ⟨p,rfl⟩:=Int.eq_ofNat_of_zero_le hp.1
 obtain ⟨n,rfl⟩:=Int.eq_ofNat_of_zero_le hn.1
 have h1 : p < 16777216:=by omega
 have h2 : n < 256:=by omega
 have e : (BitVec.ofInt 32 ((p : Int) * 256) ||| BitVec.ofInt 32 (n : Int)).toNat = p * 256 + n:=by
  rw [BitVec.toNat_or,BitVec.toNat_ofInt,BitVec.toNat_ofInt]
  have e1 : ((p : Int) * 256 % ((2 ^ 32 : Nat) : Int)).toNat = p <<< 8:=by rw [Nat.shiftLeft_eq]; omega
  have e2 : ((n : Int) % ((2 ^ 32 : Nat) : Int)).toNat = n:=by omega
  rw [e1,e2,← Nat.shiftLeft_add_eq_or_of_lt (by omega : n < 2 ^ 8),Nat.shiftLeft_eq]
 show IntKind.u32.wrap (((BitVec.ofInt 32 ((p : Int) * 256) ||| BitVec.ofInt 32 (n : Int)).toNat : Nat) : Int) = _
 rw [e,IntWalk.u32_in _ (by omega)]
 omega
theorem Qio {w0 : World} {g o : Nat} {t : TypeId} {cs : Array Value} {ds : List Value} (h : Blk w0 g t cs) (hd : ∀ j v,ds[j]? = some v → cs[o + j]? = some v) : ∀ w',(∃ z : GExt w0,w' = z.w) → w'.rangeAt g o ds:=by
 rintro _ ⟨z,rfl⟩
 intro j v hv
 rw [(h.ext z.h.below).cell]; exact hd j v hv
theorem encV_pid (x : VidV) : ∀ (j : Nat) (v : Value),(encP x.1)[j]? = some v → (encV x).toArray[0 + j]? = some v
 | 0,_,h => h
 | 1,_,h => h
 | j + 2,_,h => by simp [encP] at h
theorem packGP (p : PidV) (w : World) : Calls Tryz.prog 101 #[.agg (encP p).toArray] w (RetG w (.int .u32 (keyP p))):=
 packG _ _ ⟨by omega,by have:=p.1.isLt; omega⟩ ⟨by omega,by have:=p.2.isLt; omega⟩ w
set_option maxRecDepth 100000 in
set_option maxHeartbeats 1000000 in
theorem vpackG (x : VidV) (w : World) : Calls Tryz.prog 62 #[.agg (encV x).toArray] w (RetG w (.int .u32 (keyV x))):=by
 have HA:=lH (fun w0 => packGP x.1 w0)
 have B0 : Hid (Grew w (w.alloc (.cells (encV x).toArray 27))):=(Grew.refl _).alloc _
 have K1 : Hid (Blk (w.alloc (.cells (encV x).toArray 27)) w.heap.size 27 (encV x).toArray):=Blk.new _ _ _
 have F : Hid (bits .or .u32 (keyP x.1 * 256) ((x.2.val : Nat) : Int) = keyV x):=bits_vpack _ _ (keyP_bd _) ⟨by omega,by have:=x.2.isLt; omega⟩
 obtain ⟨k0,k1⟩:=keyP_bd x.1
 have n1 : ((x.2.val : Nat) : Int) < 256:=by have:=x.2.isLt; omega
 go_enter Tryz.func62,Tryz.ntmps62
 go_wp2_with fail
 have q2 : ∀ z : GExt (w.alloc (.cells (encV x).toArray 27)),z.w.cell? ⟨w.heap.size,2,none⟩ = some (.int .u8 ((x.2.val : Nat) : Int)):=fun z => (K1.out.ext z.h.below).cell 2
 generalize (w.alloc (.cells (encV x).toArray 27)) = w0 at *
 generalize keyP x.1 = k at *
 refine Qfi Qav (by kernel_rfl) ?_
 repeat (first
  | (refine Qab (Qio K1.out (encV_pid x)) Qan rfl Qaq rfl rfl ?_; simp only [sqS,sq0])
  | go_big_quiet_step ((go_at_call 101; with_reducible exact Qd3 (HA.out _))))
 refine wpQuiet_nil ?_
 rintro _ ⟨z,rfl⟩
 go_wp2
 go_ret
 refine ⟨Qce ?_,B0.out.trans z.h⟩
 exact F.out
set_option maxRecDepth 100000 in
set_option maxHeartbeats 1000000 in
theorem vcmpG (x y : VidV) (w : World) : Calls Tryz.prog 34 #[.agg (encV x).toArray,.agg (encV y).toArray] w (RetG w (.int .i64 (Qb5 (keyV x) (keyV y)))):=by
 have HA:=lH (fun w0 => vpackG x w0)
 have HB:=lH (fun w0 => vpackG y w0)
 have B0 : Hid (Grew w ((w.alloc (.cells (encV x).toArray 27)).alloc (.cells (encV y).toArray 27))):=((Grew.refl _).alloc _).alloc _
 have K1 : Hid (Blk ((w.alloc (.cells (encV x).toArray 27)).alloc (.cells (encV y).toArray 27)) w.heap.size 27 (encV x).toArray):=(Blk.new _ _ _).alloc _
 have K2 : Hid (Blk ((w.alloc (.cells (encV x).toArray 27)).alloc (.cells (encV y).toArray 27)) (w.heap.size + 1) 27 (encV y).toArray):=Blk.newAt (by simp) _ _
 go_enter Tryz.func34,Tryz.ntmps34
 go_wp2_with fail
 generalize keyV x = kx at *
 generalize keyV y = ky at *
 generalize ((w.alloc (.cells (encV x).toArray 27)).alloc (.cells (encV y).toArray 27)) = w0 at *
 refine Qfi Qav (by kernel_rfl) ?_
 repeat (first
  | (refine Qab (gext_row K1.out) Qaj rfl Qal rfl rfl ?_; simp only [sqS,sq0])
  | (refine Qab (gext_row K2.out) Qaj rfl Qal rfl rfl ?_; simp only [sqS,sq0])
  | go_big_quiet_step ((first | (go_at_call 62; with_reducible exact Qd3 (HA.out _)) | (go_at_call 62; with_reducible exact Qd3 (HB.out _)) | (go_at_call 61; with_reducible exact Qd3 ((compare_any _ _ _).mono fun _ _ => RetG.of)))))
 refine wpQuiet_nil ?_
 rintro _ ⟨z,rfl⟩
 go_wp2
 go_ret
 exact ⟨rfl,B0.out.trans z.h⟩
end Go.Proofs.YtdafiipedlglpaaGreat

/- Names of vertices: told, and held against each other, by the document, and by number. -/
namespace Go.Proofs.YtdafiipedlglpaaGreat
open Go.RowKit

theorem Qe9 {w0 : World} {g o : Nat} {t : TypeId} {cs : Array Value} {ds : List Value} (h : Blk w0 g t cs) (hd : ∀ j v,ds[j]? = some v → cs[o + j]? = some v) : w0.rangeAt g o ds:=fun j v hv => by
 rw [h.cell]; exact hd j v hv
theorem RetB.ofG {w w' : World} {v : Value} {e : Ending} (h : RetG w v e w') : RetB w v e w':=⟨h.1,h.2.below⟩
theorem vcmpV (x y : VidV) (w : World) : Calls Tryz.prog 34 #[.agg (encV x).toArray,.agg (encV y).toArray] w (RetB w (.int .i64 (Qb5 (keyV x) (keyV y)))):=(vcmpG x y w).mono fun _ _ => RetB.ofG
theorem keyV_ne {x y : VidV} (h : x.1 ≠ y.1) : Qb5 (keyV x) (keyV y) = Qb5 (keyP x.1) (keyP y.1):=by
 have h0 : keyP x.1 ≠ keyP y.1:=fun e => h (keyP_inj _ _ e)
 have h1:=x.2.isLt
 have h2:=y.2.isLt
 unfold keyV Qb5
 split <;> (try split) <;> (try split) <;> (try split) <;> omega
theorem keyV_same {x y : VidV} (h : x.1 = y.1) : Qb5 (keyV x) (keyV y) = Qb5 ((x.2.val : Nat) : Int) ((y.2.val : Nat) : Int):=by
 unfold keyV Qb5
 rw [h]
 split <;> (try split) <;> (try split) <;> (try split) <;> omega
set_option maxRecDepth 100000 in
set_option maxHeartbeats 1000000 in
theorem rcmpV (x y : VidV) (w : World) : Calls Tryz.prog 131 #[.agg (encV x).toArray,.agg (encV y).toArray] w (RetB w (.int .i64 (Qb5 (keyV x) (keyV y)))):=by
 have B0 : Hid (Below w.heap.size w ((w.alloc (.cells (encV x).toArray 27)).alloc (.cells (encV y).toArray 27))):=two_box _ _ _
 have K1 : Hid (Blk ((w.alloc (.cells (encV x).toArray 27)).alloc (.cells (encV y).toArray 27)) w.heap.size 27 (encV x).toArray):=(Blk.new _ _ _).alloc _
 have K2 : Hid (Blk ((w.alloc (.cells (encV x).toArray 27)).alloc (.cells (encV y).toArray 27)) (w.heap.size + 1) 27 (encV y).toArray):=Blk.newAt (by simp) _ _
 have R1:=lH (Qe9 K1.out (encV_pid x))
 have R2:=lH (Qe9 K2.out (encV_pid y))
 have p2 : ((w.alloc (.cells (encV x).toArray 27)).alloc (.cells (encV y).toArray 27)).cell? ⟨w.heap.size,2,none⟩ = some (.int .u8 ((x.2.val : Nat) : Int)):=K1.out.cell 2
 have p3 : ((w.alloc (.cells (encV x).toArray 27)).alloc (.cells (encV y).toArray 27)).cell? ⟨w.heap.size + 1,2,none⟩ = some (.int .u8 ((y.2.val : Nat) : Int)):=K2.out.cell 2
 have HC:=lH (fun w0 => rcmpP x.1 y.1 w0)
 have NE:=fun u => neqP x.1 y.1 u
 by_cases e : x.1 = y.1
 ·rw [keyV_same e]
  have NE' : ∀ u : World,(binOp .neq 25 (.agg (encP x.1).toArray) (.agg (encP y.1).toArray)).run Tryz.prog u = .ok (.bool false) u:=fun u => by rw [NE,dqT e]; rfl
  clear NE e HC
  generalize hx : ((x.2.val : Nat) : Int) = m at *
  generalize hy : ((y.2.val : Nat) : Int) = n at *
  clear hx hy
  rcases Int.lt_trichotomy m n with h | h | h
  ·have S:=lH (Qf6 h)
   have d1 : decide (m < n) = true:=dqT h
   go_enter Tryz.func131,Tryz.ntmps131
   go_wp2_with (first | (refine wpList_load_mid rfl 25 _ rfl _ _ (by rfl) _ _ R1.out Qan rfl Qaq ?_) | (refine wpList_load_mid rfl 25 _ rfl _ _ (by rfl) _ _ R2.out Qan rfl Qaq ?_))
   go_ret
   exact ⟨Qce S.out.symm,B0.out⟩
  ·have S:=lH (Qf8 h)
   have d1 : decide (m < n) = false:=dqF (by omega)
   have d2 : decide (n < m) = false:=dqF (by omega)
   clear h
   go_enter Tryz.func131,Tryz.ntmps131
   go_wp2_with (first | (refine wpList_load_mid rfl 25 _ rfl _ _ (by rfl) _ _ R1.out Qan rfl Qaq ?_) | (refine wpList_load_mid rfl 25 _ rfl _ _ (by rfl) _ _ R2.out Qan rfl Qaq ?_))
   go_ret
   exact ⟨Qce S.out.symm,B0.out⟩
  ·have S:=lH (Qf7 h)
   have d1 : decide (m < n) = false:=dqF (by omega)
   have d2 : decide (n < m) = true:=dqT h
   go_enter Tryz.func131,Tryz.ntmps131
   go_wp2_with (first | (refine wpList_load_mid rfl 25 _ rfl _ _ (by rfl) _ _ R1.out Qan rfl Qaq ?_) | (refine wpList_load_mid rfl 25 _ rfl _ _ (by rfl) _ _ R2.out Qan rfl Qaq ?_))
   go_ret
   exact ⟨Qce S.out.symm,B0.out⟩
 ·rw [keyV_ne e]
  have NE' : ∀ u : World,(binOp .neq 25 (.agg (encP x.1).toArray) (.agg (encP y.1).toArray)).run Tryz.prog u = .ok (.bool true) u:=fun u => by rw [NE,dqF e]; rfl
  clear NE e
  generalize Qb5 (keyP x.1) (keyP y.1) = sg at *
  go_enter Tryz.func131,Tryz.ntmps131
  go_wp2_with (first | (refine wpList_load_mid rfl 25 _ rfl _ _ (by rfl) _ _ R1.out Qan rfl Qaq ?_) | (refine wpList_load_mid rfl 25 _ rfl _ _ (by rfl) _ _ R2.out Qan rfl Qaq ?_))
  refine (HC.out _).mono ?_
  rintro e w1 ⟨rfl,b1⟩
  have B1:=lH (B0.out.trans (b1.mono B0.out.size))
  clear b1
  go_wp2
  go_ret
  exact ⟨rfl,B1.out⟩
end Go.Proofs.YtdafiipedlglpaaGreat

/- Names of vertices: unpacked; how they stand by number. -/
namespace Go.Proofs.YtdafiipedlglpaaGreat
open Go.RowKit

theorem eqlV_any (a b c d m n : Int) (w : World) : (binOp .eql 27 (.agg #[.int .u8 a,.int .u16 b,.int .u8 m]) (.agg #[.int .u8 c,.int .u16 d,.int .u8 n])).run Tryz.prog w = .ok (.bool (decide (a = c) && decide (b = d) && decide (m = n))) w:=by
 simp [go_sem]
 by_cases h1 : a = c <;> by_cases h2 : b = d <;> by_cases h3 : m = n <;> simp [h1,h2,h3]
theorem neqV_any (a b c d m n : Int) (w : World) : (binOp .neq 27 (.agg #[.int .u8 a,.int .u16 b,.int .u8 m]) (.agg #[.int .u8 c,.int .u16 d,.int .u8 n])).run Tryz.prog w = .ok (.bool (!(decide (a = c) && decide (b = d) && decide (m = n)))) w:=by
 simp [go_sem]
 by_cases h1 : a = c <;> by_cases h2 : b = d <;> by_cases h3 : m = n <;> simp [h1,h2,h3]
theorem vidV_eq (x y : VidV) : (decide (((x.1.1.val : Nat) : Int) = ((y.1.1.val : Nat) : Int)) && decide (((x.1.2.val : Nat) : Int) = ((y.1.2.val : Nat) : Int)) && decide (((x.2.val : Nat) : Int) = ((y.2.val : Nat) : Int))) = decide (x = y):=by
 rw [pidV_eq,Bool.eq_iff_iff]
 simp only [Bool.and_eq_true,decide_eq_true_eq]
 constructor
 ·rintro ⟨h1,h2⟩; exact Prod.ext h1 (Fin.ext (by omega))
 ·rintro rfl; exact ⟨rfl,rfl⟩
theorem eqlV (x y : VidV) (w : World) : (binOp .eql 27 (.agg (encV x).toArray) (.agg (encV y).toArray)).run Tryz.prog w = .ok (.bool (decide (x = y))) w:=by
 rw [← vidV_eq]; exact eqlV_any _ _ _ _ _ _ w
theorem neqV (x y : VidV) (w : World) : (binOp .neq 27 (.agg (encV x).toArray) (.agg (encV y).toArray)).run Tryz.prog w = .ok (.bool (!decide (x = y))) w:=by
 rw [← vidV_eq]; exact neqV_any _ _ _ _ _ _ w
def orV (x y : Int) : Int:=if x = 0 then y else x
set_option maxRecDepth 100000 in
set_option maxHeartbeats 1000000 in
theorem or_any (x y : Int) (w : World) (g c : Nat) (h0 : w.cell? ⟨g,0,none⟩ = some (.int .i64 x)) (h1 : w.cell? ⟨g,1,none⟩ = some (.int .i64 y)) : Calls Tryz.prog 104 #[.slice (some ⟨g,0,none⟩) 2 c] w (Ret w (.int .i64 (orV x y))):=by
 by_cases hx : x = 0
 ·have F:=lH (show orV x y = y from if_pos hx)
  have b0 : (x != 0) = false:=by simp [hx]
  by_cases hy : y = 0
  ·have F2 : Hid (orV x y = 0):=by rw [Hid,F.out,hy]
   have b1 : (y != 0) = false:=by simp [hy]
   clear hx hy F
   go_enter Tryz.func104,Tryz.ntmps104
   go_wp2
   go_loop [8] (fun i => ∃ k : Nat,k ≤ 2 ∧ i = .int .i64 k) (fun i => 2 - (intOf i).toNat)
   case atStart => exact ⟨0,by omega,rfl⟩
   case round =>
    obtain ⟨k,hk,rfl⟩:=hrel
    match k,hk with
    | 0,_ =>
     go_wp2
     go_round
     case rel => exact ⟨1,by omega,rfl⟩
     case measure => simp [intOf]
    | 1,_ =>
     go_wp2
     go_round
     case rel => exact ⟨2,by omega,rfl⟩
     case measure => simp [intOf]
    | 2,_ => (go_wp2; go_ret; exact ⟨Qce F2.out.symm,rfl⟩)
  ·have b1 : (y != 0) = true:=by simp [hy]
   clear hx hy
   go_enter Tryz.func104,Tryz.ntmps104
   go_wp2
   go_loop [8] (fun i => ∃ k : Nat,k ≤ 1 ∧ i = .int .i64 k) (fun i => 2 - (intOf i).toNat)
   case atStart => exact ⟨0,by omega,rfl⟩
   case round =>
    obtain ⟨k,hk,rfl⟩:=hrel
    match k,hk with
    | 0,_ =>
     go_wp2
     go_round
     case rel => exact ⟨1,by omega,rfl⟩
     case measure => simp [intOf]
    | 1,_ => (go_wp2; go_ret; exact ⟨Qce F.out.symm,rfl⟩)
 ·have F:=lH (show orV x y = x from if_neg hx)
  have b0 : (x != 0) = true:=by simp [hx]
  clear hx
  go_enter Tryz.func104,Tryz.ntmps104
  go_wp2
  go_loop [8] (fun i => i = .int .i64 0) (fun i => 2 - (intOf i).toNat)
  case atStart => exact rfl
  case round =>
   obtain rfl:=hrel
   go_wp2
   go_ret
   exact ⟨Qce F.out.symm,rfl⟩
end Go.Proofs.YtdafiipedlglpaaGreat

/- Names of vertices: how they stand by number. -/
namespace Go.Proofs.YtdafiipedlglpaaGreat
open Go.RowKit

end Go.Proofs.YtdafiipedlglpaaGreat

/- Lists of names of vertices: are they the same? -/
namespace Go.Proofs.YtdafiipedlglpaaGreat
open Go.RowKit

structure VidsAt (w : World) (A : Option Addr) (n : Nat) (l : List VidV) : Prop where
 len : l.length = n
 sl : Sl w w.heap.size 3 A n (l.flatMap encV)
theorem VidsAt.ext {w w' : World} {A : Option Addr} {n : Nat} {l : List VidV} (h : VidsAt w A n l) (hb : Below w.heap.size w w') : VidsAt w' A n l:=⟨h.len,(h.sl.below hb (Nat.le_refl _)).more hb.size⟩
theorem VidsAt.at_ {w : World} {A : Option Addr} {n : Nat} {l : List VidV} (h : VidsAt w A n l) {k : Nat} (hk : k < n) : ∃ b o x,A = some ⟨b,o,none⟩ ∧ b < w.heap.size ∧ l[k]? = some x ∧ w.rangeAt b (o + k * 3) (encV x):=by
 have hk' : k < l.length:=by rw [h.len]; exact hk
 obtain ⟨b,o,e,hb,hr⟩:=h.sl.rowAt h.len (fun x _ => Qdk x) hk'
 exact ⟨b,o,l[k],e,hb,List.getElem?_eq_getElem hk',hr⟩
theorem VidsAt.of_own {w : World} {base n : Nat} {v : Value} {l : List VidV} (h : w.ownsRow base 27 3 v n (l.flatMap encV)) (hn : l.length = n) : ∃ A c,v = .slice A n c ∧ n ≤ c ∧ VidsAt w A n l:=by
 obtain ⟨A,c,rfl,hc,hs⟩:=Sl.of_own h
 exact ⟨A,c,rfl,hc,hn,hs⟩
end Go.Proofs.YtdafiipedlglpaaGreat
