/- Texts of general use, one behind another. -/
import Derived.Test.YtdafiipedlglpaaGreatLnx
import Derived.Test.YtdafiipedlglpaaGreatGrns
import Derived.Test.YtdafiipedlglpaaGreatPaws
import Derived.Test.YtdafiipedlglpaaGreatLits

/- Two lists of numbers that are the same: walked (bruitlaw07.Ints). -/
namespace Go.Proofs.YtdafiipedlglpaaGreat
open Go.RowKit

set_option maxRecDepth 100000 in
set_option maxHeartbeats 1000000 in
theorem ints_same (F : List Nat) (w : World) (A A' : Option Addr) (n c c' : Nat) (hn : F.length = n) (h : Sl w w.heap.size 1 A n (encN F)) (h' : Sl w w.heap.size 1 A' n (encN F)) (hm : n ≤ maxLen) :
  Calls Tryz.prog 14 #[.slice A n c,.slice A' n c'] w (RetD w (.int .i64 1)):=by
 unfold maxLen at hm
 have H:=lH h
 have H':=lH h'
 replace hn:=lH hn
 clear h h'
 go_enter Tryz.func14,Tryz.ntmps14
 go_wp2_with fail
 go_loopw [5] (fun i wr => ∃ k : Nat,k ≤ n ∧ i = .int .i64 k ∧ ∃ q,wr = w.drewN q) (fun i _ => n - (intOf i).toNat)
 case atStart => exact ⟨0,by omega,rfl,0,rfl⟩
 case round =>
  obtain ⟨k,hk,rfl,q,rfl⟩:=hrel
  by_cases hlt : k < n
  ·obtain ⟨b,o,x,rfl,hb,hx,R1⟩:=sl_cell H.out hn.out hlt
   obtain ⟨b',o',y,rfl,hb',hy,R2⟩:=sl_cell H'.out hn.out hlt
   obtain rfl : x = y:=Option.some.inj (hx.symm.trans hy)
   have hlk : (k : Int) < (n : Int):=by omega
   have hk0 : (0 : Int) ≤ (k : Int):=by omega
   clear hx hy
   go_wp2_with fail
   refine wp_region_quiet_lit (by kernel_rfl) (by kernel_rfl) ?_
   repeat (go_big_quiet_step (fail))
   refine wpQuiet_nil ?_
   rintro _ ⟨nq,rfl⟩
   go_wp2_with fail
   go_roundw
   case rel => exact ⟨k + 1,by omega,by go_num,⟨_,rfl⟩⟩
   case measure => simp [intOf]; omega
  ·go_wp2
   go_ret
   exact ⟨rfl,q,rfl⟩
end Go.Proofs.YtdafiipedlglpaaGreat

/- The chapter's example of lines: what it comes to: plain. -/
namespace Go.Proofs.YtdafiipedlglpaaGreat
open Go.RowKit

def w21i : PidV:=(1,1)
def w21j : PidV:=(1,2)
def w21f : VidV:=Qb0 w21i 0
def w21a : OpV:=(1,vid0,vid0,ByteArray.empty)
def w21b : OpV:=(3,w21f,vid0,ByteArray.empty)
def w21c : OpV:=(4,Qb0 w21i 1,Qb0 w21i 2,ByteArray.empty)
def w21d : OpV:=(4,Qb0 w21i 2,Qb0 w21i 3,ByteArray.empty)
def w21k : OpV:=(5,Qb0 w21i 2,vid0,ByteArray.empty)
def w21l : List OpV:=[w21a,w21b,w21b,w21b,w21c,w21d]
def w21p : PatV:=(w21i,[],w21l)
def w21q : PatV:=(w21j,[w21i],[w21k])
theorem w21_p : Qhk w21i w21l = w21p ∧ Qhl w21i w21l = 0:=⟨by kernel_rfl,by kernel_rfl⟩
theorem w21_q : Qhk w21j [w21k] = w21q ∧ Qhl w21j [w21k] = 0:=⟨by kernel_rfl,by kernel_rfl⟩
theorem w21_run : runG [] [w21p,w21q] = [w21p,w21q]:=by kernel_rfl
theorem w21_len : (Qdf [w21p,w21q] w21f).length = 3:=by kernel_rfl
theorem w21_steps : Qh0 [w21p,w21q] w21f = [(0,1),(1,2)]:=by kernel_rfl
def w21R (a b : Nat) : Bool:=decide (a < b ∧ b ≤ 2)
theorem w21_rel {R : Nat → Nat → Bool} (h : ∀ a b,R a b = true ↔ ViaL (Qh0 [w21p,w21q] w21f) a b) : R = w21R:=by
 rw [w21_steps] at h
 have e : ∀ x y,(x,y) ∈ [(0,1),(1,2)] ↔ (x = 0 ∧ y = 1) ∨ (x = 1 ∧ y = 2):=fun x y => by simp
 have h1 : ∀ a b,ViaL [(0,1),(1,2)] a b → a < b ∧ b ≤ 2:=fun a b hv => by
  unfold ViaL at hv
  induction hv with
  | edge he => rcases (e _ _).1 he with ⟨rfl,rfl⟩ | ⟨rfl,rfl⟩ <;> decide
  | step he _ _ ih => rcases (e _ _).1 he with ⟨rfl,rfl⟩ | ⟨rfl,rfl⟩ <;> omega
 have h2 : ∀ a b,a < b ∧ b ≤ 2 → ViaL [(0,1),(1,2)] a b:=fun a b hv => by
  have s1 : ViaL [(0,1),(1,2)] 0 1:=.edge (by simp)
  have s2 : ViaL [(0,1),(1,2)] 1 2:=.edge (by simp)
  have hc : (a = 0 ∧ b = 1) ∨ (a = 1 ∧ b = 2) ∨ (a = 0 ∧ b = 2):=by omega
  rcases hc with ⟨rfl,rfl⟩ | ⟨rfl,rfl⟩ | ⟨rfl,rfl⟩
  ·exact s1
  ·exact s2
  ·exact s1.trans trivial s2
 funext a b
 rw [Bool.eq_iff_iff,h]
 unfold w21R
 rw [decide_eq_true_eq]
 exact ⟨h1 a b,h2 a b⟩
theorem w21_live : Qen (Qdf [w21p,w21q] w21f) (ordR w21R 3) = [0,2]:=by kernel_rfl
theorem w21_firm : firmR w21R 3 1 = true:=by kernel_rfl
theorem w21_bef : befR w21R 0 2 = true:=by kernel_rfl
theorem w21_ord : (ordR w21R 3).length = 3 ∧ ∀ i ∈ ordR w21R 3,i < 3:=by
 have e : ordR w21R 3 = [0,1,2]:=by kernel_rfl
 rw [e]
 exact ⟨rfl,by decide⟩
theorem pats_two {w : World} {r s : List Value} {p q : PatV} (h : PatAt w r p) (h2 : PatAt w s q) : PatsAt (w.alloc (.cells [r,s].flatten.toArray 64)) (some ⟨w.heap.size,0,none⟩) 2 [p,q]:=by
 refine ⟨rfl,[r,s],⟨rfl,fun k r' p' h1 h3 => ?_⟩, ?_⟩
 ·match k,h1,h3 with
  | 0,h1,h3 =>
   obtain rfl : r = r':=by simpa using h1
   obtain rfl : p = p':=by simpa using h3
   exact h.ext (Qaf _ _)
  | 1,h1,h3 =>
   obtain rfl : s = r':=by simpa using h1
   obtain rfl : q = p':=by simpa using h3
   exact h2.ext (Qaf _ _)
  | _ + 2,h1,_ => simp at h1
 ·exact sl_fresh w _ 64 4 2 _ (by simp [h.len4,h2.len4]) rfl
theorem w21_ops (w : World) : OpsAt (w.alloc (.cells [encO w21a,encO w21b,encO w21b,encO w21b,encO w21c,encO w21d].flatten.toArray 70)) (some ⟨w.heap.size,0,none⟩) 6 w21l:=ops_new w w21l (by simp [OpV.ok,w21l,w21a,w21b,w21c,w21d,maxLen])
theorem build_w21a (w : World) : (Instr.build 70 #[(0,.int .u8 1)]).run Tryz.prog w = .ok (.agg (encO w21a).toArray) w:=by kernel_rfl
theorem build_w21b (w : World) : (Instr.build 70 #[(0,.int .u8 3),(1,.agg (encV w21f).toArray)]).run Tryz.prog w = .ok (.agg (encO w21b).toArray) w:=by kernel_rfl
theorem build_w21c (w : World) : (Instr.build 70 #[(0,.int .u8 4),(1,.agg (encV (Qb0 w21i 1)).toArray),(2,.agg (encV (Qb0 w21i 2)).toArray)]).run Tryz.prog w = .ok (.agg (encO w21c).toArray) w:=by kernel_rfl
theorem Qf0 (w : World) : (Instr.build 70 #[(0,.int .u8 4),(1,.agg (encV (Qb0 w21i 2)).toArray),(2,.agg (encV (Qb0 w21i 3)).toArray)]).run Tryz.prog w = .ok (.agg (encO w21d).toArray) w:=by kernel_rfl
theorem Qf3 {w : World} {g : Nat} {t : TypeId} {z : Array Value} {r : List Value} (K : Blk w g t z) (hz : z.size = 4) (h : PatAt w r w21p) (cs : Array Value) : PatAt (w.setRow g cs) r w21p:=by
 obtain ⟨⟨A,c,A',c',rfl,P,O1,O2,O3⟩,m1,m2⟩:=h
 refine ⟨⟨A,c,A',c',rfl,⟨P.1,P.2.1,fun h => absurd h (by decide)⟩,O1,⟨O2.1,fun hn => ?_⟩,O3⟩,m1,m2⟩
 obtain ⟨b,o,e,hb,R⟩:=O2.2 hn
 have hne : b ≠ g:=fun hbg => by
  subst hbg
  have h31:=(R 31 (by decide)).symm.trans (K.cell (o + 31))
  rw [Array.getElem?_eq_none (by omega)] at h31
  have h : ((w21p.2.2.flatMap encO)[31]?).isSome = true:=by kernel_rfl
  rw [h31] at h
  cases h
 exact ⟨b,o,e,by simpa using hb,fun j hj => (World.cell?_of_block (a:=⟨b,o + j,none⟩) (setRow_other w g b cs hne)).trans (R j hj)⟩
theorem Qgh {w : World} {g : Nat} {t : TypeId} {l : List Value} (h : Blk w g t l.toArray) : w.rangeAt g 0 l:=fun j v hv => by
 rw [Nat.zero_add,h.cell j]; simpa using hv
theorem sl_two {w : World} : Sl (w.alloc (.cells #[.int .i64 0,.int .i64 2] 3)) (w.alloc (.cells #[.int .i64 0,.int .i64 2] 3)).heap.size 1 (some ⟨w.heap.size,0,none⟩) 2 (encN [0,2]):=sl_fresh w _ 3 1 2 (encN [0,2]) rfl rfl
end Go.Proofs.YtdafiipedlglpaaGreat

/- The chapter's example of lines: walked. -/
namespace Go.Proofs.YtdafiipedlglpaaGreat
open Go.RowKit

theorem w21_before {w : World} {g : Nat} (h : RelAt w g 3 w21R) : Calls Tryz.prog 25 #[.pointer (some ⟨g,0,none⟩),.int .i64 0,.int .i64 2] w (Ret w (.bool true)):=by
 have:=before8_any h 0 2 (by decide) (by decide)
 rw [w21_bef] at this
 exact this
set_option maxRecDepth 100000 in
set_option maxHeartbeats 8000000 in
theorem works21 (w : World) : Calls Tryz.prog 5 #[] w (RetB w (.bool true)):=by
 have HM:=lH (fun (u : World) (A : Option Addr) (h : OpsAt u A 6 w21l) => make18_any w21i w21l u A 6 6 (by omega) h)
 rw [w21_p.1,w21_p.2] at HM
 have HN:=lH (fun (u : World) (A : Option Addr) (h : OpsAt u A 1 [w21k]) => make18_any w21j [w21k] u A 1 1 (by omega) h)
 rw [w21_q.1,w21_q.2] at HN
 have hcV : ∀ args u,(callFunc 23 args).run Tryz.prog u = .ok (.enter 23 args) u:=enters_of Tryz.func23 (by kernel_rfl) rfl
 have hcM : ∀ args u,(callFunc 24 args).run Tryz.prog u = .ok (.enter 24 args) u:=enters_of Tryz.func24 (by kernel_rfl) rfl
 have KA : Hid (Blk (w.alloc (.cells #[.int .u8 1,.int .u16 1] 25)) w.heap.size 25 (encP w21i).toArray):=Blk.new _ _ _
 have B1 : Hid (Below w.heap.size w (w.alloc (.cells #[.int .u8 1,.int .u16 1] 25))):=Qaf _ _
 go_enter Tryz.func5,Tryz.ntmps5
 go_upto_region 2 with fail
 generalize (w.alloc (.cells #[.int .u8 1,.int .u16 1] 25)) = w2 at *
 obtain ⟨ga,hga⟩ : ∃ ga,ga = w.heap.size:=⟨_,rfl⟩
 simp only [← hga] at KA ⊢
 replace hga:=lH hga
 go_wp2_with (refine wpList_load_row rfl 25 _ (by rfl) ga (by rfl) _ _ _ _ KA.out Qan rfl Qaq ?_)
 refine (Qca w21i 0 w2).mono ?_
 rintro e w25 ⟨rfl,b25⟩
 have KF : Hid (Blk ((w25.alloc (.cells #[.int .u8 0,.int .u16 0,.int .u8 0] 27)).setRow w25.heap.size (encV w21f).toArray) w25.heap.size 27 (encV w21f).toArray):=(Blk.new _ _ _).row _
 have BF : Hid (Below w25.heap.size w25 ((w25.alloc (.cells #[.int .u8 0,.int .u16 0,.int .u8 0] 27)).setRow w25.heap.size (encV w21f).toArray)):=Qad (Qaf w25 _) (Nat.le_refl _) _
 go_upto_region 3 with (first
  | (refine Qam (allocVid20 _) ?_)
  | (refine wpList_store_row rfl 27 _ _ (by rfl) w25.heap.size (encV w21f).toArray (by rfl) (by rfl) _ _ (Blk.new _ _ _) Qal rfl (encV_all20 _) ?_))
 have KA3:=lH (KA.out.ext (Qaa b25 BF.out))
 have B3:=lH (B1.out.trans ((Qaa b25 BF.out).mono B1.out.size))
 clear KA B1 BF b25
 generalize ((w25.alloc (.cells #[.int .u8 0,.int .u16 0,.int .u8 0] 27)).setRow w25.heap.size (encV w21f).toArray) = w3 at *
 obtain ⟨gf,hgf⟩ : ∃ g,g = w25.heap.size:=⟨_,rfl⟩
 simp only [← hgf] at KF ⊢
 clear hgf
 have RA:=lH (fun (u : World) (hu : Below w3.heap.size w3 u) => Qgh (KA3.out.ext hu))
 have RF:=lH (fun (u : World) (hu : Below w3.heap.size w3 u) => Qgh (KF.out.ext hu))
 clear KA3 KF
 simp only [Act.put,sqA,sq0,sqS]
 go_cut [3,4] (fun e1 e2 wx => ∃ g A c A' c',e1 = .pointer (some ⟨g,0,none⟩) ∧ e2 = .int .i64 0 ∧ Blk wx g 64 (patC w21p.1 A w21p.2.1.length c A' w21p.2.2.length c').toArray ∧ PatAt wx (patC w21p.1 A w21p.2.1.length c A' w21p.2.2.length c') w21p ∧ Below w3.heap.size w3 wx)
 case first =>
  refine wp_region_held (S:=fun w' => Below w3.heap.size w3 w') Qav ?_
  change wpAnyH _ _ _ _ _ _ _ _ w3.drew
  have B4 : Hid (Below w3.heap.size w3 w3.drew):=(Below.refl _ _).drew
  generalize w3.drew = w4 at B4 ⊢
  simp only [List.size_toArray,List.length_cons,List.length_nil]
  refine Qai 0 12 (.agg (encP w21i).toArray) rfl (fun w' h => Qb3 rfl (RA.out w' h) Qan rfl Qaq) B4.out ?_
  simp only [Act.put,sqA,sq0,sqS]
  refine Qai 1 13 (.agg (encO w21a).toArray) rfl (fun w' _ => Qbq (vs:=#[(0,.int .u8 1)]) (by simp only [sqM,sqC,sqN]; rfl) (build_w21a w')) B4.out ?_
  simp only [Act.put,sqA,sq0,sqS]
  refine Qai 2 14 (.agg (encV w21f).toArray) rfl (fun w' h => Qb3 rfl (RF.out w' h) Qaj rfl Qal) B4.out ?_
  simp only [Act.put,sqA,sq0,sqS]
  refine Qai 3 15 (.agg (encO w21b).toArray) rfl (fun w' _ => Qbq (vs:=#[(0,.int .u8 3),(1,.agg (encV w21f).toArray)]) (by simp only [sqM,sqC,sqN]; rfl) (build_w21b w')) B4.out ?_
  simp only [Act.put,sqA,sq0,sqS]
  refine Qai 4 16 (.agg (encV w21f).toArray) rfl (fun w' h => Qb3 rfl (RF.out w' h) Qaj rfl Qal) B4.out ?_
  simp only [Act.put,sqA,sq0,sqS]
  refine Qai 5 17 (.agg (encO w21b).toArray) rfl (fun w' _ => Qbq (vs:=#[(0,.int .u8 3),(1,.agg (encV w21f).toArray)]) (by simp only [sqM,sqC,sqN]; rfl) (build_w21b w')) B4.out ?_
  simp only [Act.put,sqA,sq0,sqS]
  refine Qai 6 18 (.agg (encV w21f).toArray) rfl (fun w' h => Qb3 rfl (RF.out w' h) Qaj rfl Qal) B4.out ?_
  simp only [Act.put,sqA,sq0,sqS]
  refine Qai 7 19 (.agg (encO w21b).toArray) rfl (fun w' _ => Qbq (vs:=#[(0,.int .u8 3),(1,.agg (encV w21f).toArray)]) (by simp only [sqM,sqC,sqN]; rfl) (build_w21b w')) B4.out ?_
  simp only [Act.put,sqA,sq0,sqS]
  refine Qai 8 20 (.agg (encP w21i).toArray) rfl (fun w' h => Qb3 rfl (RA.out w' h) Qan rfl Qaq) B4.out ?_
  simp only [Act.put,sqA,sq0,sqS]
  refine Qai 10 22 (.agg (encP w21i).toArray) rfl (fun w' h => Qb3 rfl (RA.out w' h) Qan rfl Qaq) B4.out ?_
  simp only [Act.put,sqA,sq0,sqS]
  refine Qai 13 25 (.agg (encP w21i).toArray) rfl (fun w' h => Qb3 rfl (RA.out w' h) Qan rfl Qaq) B4.out ?_
  simp only [Act.put,sqA,sq0,sqS]
  refine Qai 15 27 (.agg (encP w21i).toArray) rfl (fun w' h => Qb3 rfl (RA.out w' h) Qan rfl Qaq) B4.out ?_
  simp only [Act.put,sqA,sq0,sqS]
  refine wpAnyH_all (rs:=[9,23]) (by kernel_rfl) (by simp) ?_
  intro i hi
  simp only [List.mem_cons,List.not_mem_nil,or_false] at hi
  rcases hi with rfl | rfl
  ·refine Qae rfl rfl (Qao (args:=#[.agg (encP w21i).toArray,.int .i64 1]) hcV (by simp only [sqM,sqC,sqN]; rfl) (Qca w21i 1 w4) ?_)
   rintro e w_1 ⟨rfl,h_2⟩
   refine ⟨_,rfl,Qaa B4.out h_2, ?_⟩
   simp only [Act.put,sqA,sq0,sqS]
   have B_3:=lH (Qaa B4.out h_2)
   clear B4
   clear h_2
   refine wpAnyH_all (rs:=[11,23]) (by kernel_rfl) (by simp) ?_
   intro i hi
   simp only [List.mem_cons,List.not_mem_nil,or_false] at hi
   rcases hi with rfl | rfl
   ·refine Qae rfl rfl (Qao (args:=#[.agg (encP w21i).toArray,.int .i64 2]) hcV (by simp only [sqM,sqC,sqN]; rfl) (Qca w21i 2 w_1) ?_)
    rintro e w_4 ⟨rfl,h_5⟩
    refine ⟨_,rfl,Qaa B_3.out h_5, ?_⟩
    simp only [Act.put,sqA,sq0,sqS]
    have B_6:=lH (Qaa B_3.out h_5)
    clear B_3
    clear h_5
    refine Qai 12 24 (.agg (encO w21c).toArray) rfl (fun w' _ => Qbq (vs:=#[(0,.int .u8 4),(1,.agg (encV (Qb0 w21i 1)).toArray),(2,.agg (encV (Qb0 w21i 2)).toArray)]) (by simp only [sqM,sqC,sqN]; rfl) (build_w21c w')) B_6.out ?_
    simp only [Act.put,sqA,sq0,sqS]
    refine wpAnyH_all (rs:=[14,23]) (by kernel_rfl) (by simp) ?_
    intro i hi
    simp only [List.mem_cons,List.not_mem_nil,or_false] at hi
    rcases hi with rfl | rfl
    ·refine Qae rfl rfl (Qao (args:=#[.agg (encP w21i).toArray,.int .i64 2]) hcV (by simp only [sqM,sqC,sqN]; rfl) (Qca w21i 2 w_4) ?_)
     rintro e w_7 ⟨rfl,h_8⟩
     refine ⟨_,rfl,Qaa B_6.out h_8, ?_⟩
     simp only [Act.put,sqA,sq0,sqS]
     have B_9:=lH (Qaa B_6.out h_8)
     clear B_6
     clear h_8
     refine wpAnyH_all (rs:=[16,23]) (by kernel_rfl) (by simp) ?_
     intro i hi
     simp only [List.mem_cons,List.not_mem_nil,or_false] at hi
     rcases hi with rfl | rfl
     ·refine Qae rfl rfl (Qao (args:=#[.agg (encP w21i).toArray,.int .i64 3]) hcV (by simp only [sqM,sqC,sqN]; rfl) (Qca w21i 3 w_7) ?_)
      rintro e w_10 ⟨rfl,h_11⟩
      refine ⟨_,rfl,Qaa B_9.out h_11, ?_⟩
      simp only [Act.put,sqA,sq0,sqS]
      have B_12:=lH (Qaa B_9.out h_11)
      clear B_9
      clear h_11
      refine Qai 17 29 (.agg (encO w21d).toArray) rfl (fun w' _ => Qbq (vs:=#[(0,.int .u8 4),(1,.agg (encV (Qb0 w21i 2)).toArray),(2,.agg (encV (Qb0 w21i 3)).toArray)]) (by simp only [sqM,sqC,sqN]; rfl) (Qf0 w')) B_12.out ?_
      simp only [Act.put,sqA,sq0,sqS]
      refine wpAnyH_all (rs:=[18,23]) (by kernel_rfl) (by simp) ?_
      intro i hi
      simp only [List.mem_cons,List.not_mem_nil,or_false] at hi
      rcases hi with rfl | rfl
      ·have P_15:=lH (w21_ops w_10)
       have h_16 : Below w_10.heap.size w_10 (w_10.alloc (.cells [encO w21a,encO w21b,encO w21b,encO w21b,encO w21c,encO w21d].flatten.toArray 70)):=Qaf _ _
       refine Qae rfl rfl (Qhf opSl [encO w21a,encO w21b,encO w21b,encO w21b,encO w21c,encO w21d] rfl (by simp) (by simp [encO]) (by simp) (by simp only [sqM,sqC,sqN]; rfl) ?_)
       refine ⟨Qaa B_12.out h_16, ?_⟩
       simp only [Act.put,sqA,sq0,sqS]
       generalize (w_10.alloc (.cells [encO w21a,encO w21b,encO w21b,encO w21b,encO w21c,encO w21d].flatten.toArray 70)) = w_13 at *
       have B_17:=lH (Qaa B_12.out h_16)
       clear B_12
       clear h_16
       generalize w_10.heap.size = g_14 at *
       refine wpAnyH_all (rs:=[19,23]) (by kernel_rfl) (by simp) ?_
       intro i hi
       simp only [List.mem_cons,List.not_mem_nil,or_false] at hi
       rcases hi with rfl | rfl
       ·refine Qae rfl rfl (Qao (args:=#[.agg (encP w21i).toArray,.slice (some ⟨g_14,0,none⟩) 6 6]) hcM (by simp only [sqM,sqC,sqN]; rfl) (HM.out w_13 _ P_15.out) ?_)
        rintro e w_18 ⟨_,rfl,p_21,h_19⟩
        have P_20:=lH p_21
        obtain ⟨⟨A_22,c_23,A_24,c_25,rfl,_,_⟩,_,_⟩:=p_21
        refine ⟨_,rfl,Qaa B_17.out h_19, ?_⟩
        simp only [Act.put,sqA,sq0,sqS]
        have B_26:=lH (Qaa B_17.out h_19)
        have F_27:=lH (P_15.out.ext h_19)
        clear B_17 P_15
        clear h_19
        refine Qai 20 11 (.tuple #[.agg (patC w21p.1 A_22 w21p.2.1.length c_23 A_24 w21p.2.2.length c_25).toArray,.int .i64 0]) rfl (fun _ _ => Qax (v:=.tuple #[.agg (patC w21p.1 A_22 w21p.2.1.length c_23 A_24 w21p.2.2.length c_25).toArray,.int .i64 0]) rfl) B_26.out ?_
        simp only [Act.put,sqA,sq0,sqS]
        refine Qai 21 32 (.agg (patC w21p.1 A_22 w21p.2.1.length c_23 A_24 w21p.2.2.length c_25).toArray) rfl (fun _ _ => Qa3 (v:=.agg (patC w21p.1 A_22 w21p.2.1.length c_23 A_24 w21p.2.2.length c_25).toArray) rfl rfl) B_26.out ?_
        simp only [Act.put,sqA,sq0,sqS]
        refine Qai 22 33 (.int .i64 0) rfl (fun _ _ => Qa3 (v:=.int .i64 0) rfl rfl) B_26.out ?_
        simp only [Act.put,sqA,sq0,sqS]
        refine oneH 23 ?_
        refine Qae rfl rfl (Qaz (Qdo _) ?_)
        refine ⟨Qaa B_26.out (Qaf _ _), ?_⟩
        simp only [Act.put,sqA,sq0,sqS]
        have K_28 : Hid (Blk (w_18.alloc (.cells #[.int .u8 0,.int .u16 0,.slice none 0 0,.slice none 0 0] 64)) w_18.heap.size 64 #[.int .u8 0,.int .u16 0,.slice none 0 0,.slice none 0 0]):=Blk.new _ _ _
        have h_29 : Below w_18.heap.size w_18 (w_18.alloc (.cells #[.int .u8 0,.int .u16 0,.slice none 0 0,.slice none 0 0] 64)):=Qaf _ _
        have gz_31 : Hid (w3.heap.size ≤ w_18.heap.size):=B_26.out.size
        generalize (w_18.alloc (.cells #[.int .u8 0,.int .u16 0,.slice none 0 0,.slice none 0 0] 64)) = w_30 at *
        have B_33:=lH (Qaa B_26.out h_29)
        have F_34:=lH (F_27.out.ext h_29)
        have F_35:=lH (P_20.out.ext h_29)
        clear B_26 F_27 P_20
        clear h_29
        generalize w_18.heap.size = g_32 at *
        refine oneH 24 ?_
        refine Qae rfl rfl (Qay (cs:=(patC w21p.1 A_22 w21p.2.1.length c_23 A_24 w21p.2.2.length c_25).toArray) rfl rfl K_28.out (show (Tryz.prog.info? 64).map (·.size) = some ((patC w21p.1 A_22 w21p.2.1.length c_23 A_24 w21p.2.2.length c_25).toArray : Array Value).size from Qa7) rfl Qc8 ?_)
        have K_36:=lH (K_28.out.row (patC w21p.1 A_22 w21p.2.1.length c_23 A_24 w21p.2.2.length c_25).toArray)
        have M_38:=lH (Qf3 K_28.out rfl F_35.out (patC w21p.1 A_22 w21p.2.1.length c_23 A_24 w21p.2.2.length c_25).toArray)
        have B_37:=lH (Qad B_33.out gz_31.out (patC w21p.1 A_22 w21p.2.1.length c_23 A_24 w21p.2.2.length c_25).toArray)
        refine ⟨B_37.out, ?_⟩
        clear B_33 F_34 F_35 K_28
        generalize (w_30.setRow g_32 (patC w21p.1 A_22 w21p.2.1.length c_23 A_24 w21p.2.2.length c_25).toArray) = w_39 at *
        refine Qai 25 4 (.int .i64 0) rfl (fun _ _ => Qby (v:=.int .i64 0) rfl) B_37.out ?_
        simp only [Act.put,sqA,sq0,sqS]
        refine wpAnyH_done (by kernel_rfl) ?_ _
        go_wp2_with fail
        go_meet
        case rel => exact ⟨g_32,_,_,_,_,rfl,rfl,K_36.out,M_38.out,B_37.out⟩
       ·refine Qae rfl rfl (Qaz (Qdo _) ?_)
        refine ⟨Qaa B_17.out (Qaf _ _), ?_⟩
        simp only [Act.put,sqA,sq0,sqS]
        have K_40 : Hid (Blk (w_13.alloc (.cells #[.int .u8 0,.int .u16 0,.slice none 0 0,.slice none 0 0] 64)) w_13.heap.size 64 #[.int .u8 0,.int .u16 0,.slice none 0 0,.slice none 0 0]):=Blk.new _ _ _
        have h_41 : Below w_13.heap.size w_13 (w_13.alloc (.cells #[.int .u8 0,.int .u16 0,.slice none 0 0,.slice none 0 0] 64)):=Qaf _ _
        have gz_43 : Hid (w3.heap.size ≤ w_13.heap.size):=B_17.out.size
        generalize (w_13.alloc (.cells #[.int .u8 0,.int .u16 0,.slice none 0 0,.slice none 0 0] 64)) = w_42 at *
        have B_45:=lH (Qaa B_17.out h_41)
        have F_46:=lH (P_15.out.ext h_41)
        clear B_17 P_15
        clear h_41
        generalize w_13.heap.size = g_44 at *
        refine oneH 19 ?_
        refine Qae rfl rfl (Qao (args:=#[.agg (encP w21i).toArray,.slice (some ⟨g_14,0,none⟩) 6 6]) hcM (by simp only [sqM,sqC,sqN]; rfl) (HM.out w_42 _ F_46.out) ?_)
        rintro e w_47 ⟨_,rfl,p_50,h_48⟩
        have P_49:=lH p_50
        obtain ⟨⟨A_51,c_52,A_53,c_54,rfl,_,_⟩,_,_⟩:=p_50
        refine ⟨_,rfl,Qaa B_45.out h_48, ?_⟩
        simp only [Act.put,sqA,sq0,sqS]
        have B_55:=lH (Qaa B_45.out h_48)
        have F_56:=lH (F_46.out.ext h_48)
        have F_57:=lH (K_40.out.ext h_48)
        clear B_45 F_46 K_40
        clear h_48
        refine Qai 20 11 (.tuple #[.agg (patC w21p.1 A_51 w21p.2.1.length c_52 A_53 w21p.2.2.length c_54).toArray,.int .i64 0]) rfl (fun _ _ => Qax (v:=.tuple #[.agg (patC w21p.1 A_51 w21p.2.1.length c_52 A_53 w21p.2.2.length c_54).toArray,.int .i64 0]) rfl) B_55.out ?_
        simp only [Act.put,sqA,sq0,sqS]
        refine Qai 21 32 (.agg (patC w21p.1 A_51 w21p.2.1.length c_52 A_53 w21p.2.2.length c_54).toArray) rfl (fun _ _ => Qa3 (v:=.agg (patC w21p.1 A_51 w21p.2.1.length c_52 A_53 w21p.2.2.length c_54).toArray) rfl rfl) B_55.out ?_
        simp only [Act.put,sqA,sq0,sqS]
        refine Qai 22 33 (.int .i64 0) rfl (fun _ _ => Qa3 (v:=.int .i64 0) rfl rfl) B_55.out ?_
        simp only [Act.put,sqA,sq0,sqS]
        refine oneH 24 ?_
        refine Qae rfl rfl (Qay (cs:=(patC w21p.1 A_51 w21p.2.1.length c_52 A_53 w21p.2.2.length c_54).toArray) rfl rfl F_57.out (show (Tryz.prog.info? 64).map (·.size) = some ((patC w21p.1 A_51 w21p.2.1.length c_52 A_53 w21p.2.2.length c_54).toArray : Array Value).size from Qa7) rfl Qc8 ?_)
        have K_58:=lH (F_57.out.row (patC w21p.1 A_51 w21p.2.1.length c_52 A_53 w21p.2.2.length c_54).toArray)
        have M_60:=lH (Qf3 F_57.out rfl P_49.out (patC w21p.1 A_51 w21p.2.1.length c_52 A_53 w21p.2.2.length c_54).toArray)
        have B_59:=lH (Qad B_55.out gz_43.out (patC w21p.1 A_51 w21p.2.1.length c_52 A_53 w21p.2.2.length c_54).toArray)
        refine ⟨B_59.out, ?_⟩
        clear B_55 F_56 F_57 P_49
        generalize (w_47.setRow g_44 (patC w21p.1 A_51 w21p.2.1.length c_52 A_53 w21p.2.2.length c_54).toArray) = w_61 at *
        refine Qai 25 4 (.int .i64 0) rfl (fun _ _ => Qby (v:=.int .i64 0) rfl) B_59.out ?_
        simp only [Act.put,sqA,sq0,sqS]
        refine wpAnyH_done (by kernel_rfl) ?_ _
        go_wp2_with fail
        go_meet
        case rel => exact ⟨g_44,_,_,_,_,rfl,rfl,K_58.out,M_60.out,B_59.out⟩
      ·refine Qae rfl rfl (Qaz (Qdo _) ?_)
       refine ⟨Qaa B_12.out (Qaf _ _), ?_⟩
       simp only [Act.put,sqA,sq0,sqS]
       have K_62 : Hid (Blk (w_10.alloc (.cells #[.int .u8 0,.int .u16 0,.slice none 0 0,.slice none 0 0] 64)) w_10.heap.size 64 #[.int .u8 0,.int .u16 0,.slice none 0 0,.slice none 0 0]):=Blk.new _ _ _
       have h_63 : Below w_10.heap.size w_10 (w_10.alloc (.cells #[.int .u8 0,.int .u16 0,.slice none 0 0,.slice none 0 0] 64)):=Qaf _ _
       have gz_65 : Hid (w3.heap.size ≤ w_10.heap.size):=B_12.out.size
       generalize (w_10.alloc (.cells #[.int .u8 0,.int .u16 0,.slice none 0 0,.slice none 0 0] 64)) = w_64 at *
       have B_67:=lH (Qaa B_12.out h_63)
       clear B_12
       clear h_63
       generalize w_10.heap.size = g_66 at *
       refine oneH 18 ?_
       have P_70:=lH (w21_ops w_64)
       have h_71 : Below w_64.heap.size w_64 (w_64.alloc (.cells [encO w21a,encO w21b,encO w21b,encO w21b,encO w21c,encO w21d].flatten.toArray 70)):=Qaf _ _
       refine Qae rfl rfl (Qhf opSl [encO w21a,encO w21b,encO w21b,encO w21b,encO w21c,encO w21d] rfl (by simp) (by simp [encO]) (by simp) (by simp only [sqM,sqC,sqN]; rfl) ?_)
       refine ⟨Qaa B_67.out h_71, ?_⟩
       simp only [Act.put,sqA,sq0,sqS]
       generalize (w_64.alloc (.cells [encO w21a,encO w21b,encO w21b,encO w21b,encO w21c,encO w21d].flatten.toArray 70)) = w_68 at *
       have B_72:=lH (Qaa B_67.out h_71)
       have F_73:=lH (K_62.out.ext h_71)
       clear B_67 K_62
       clear h_71
       generalize w_64.heap.size = g_69 at *
       refine oneH 19 ?_
       refine Qae rfl rfl (Qao (args:=#[.agg (encP w21i).toArray,.slice (some ⟨g_69,0,none⟩) 6 6]) hcM (by simp only [sqM,sqC,sqN]; rfl) (HM.out w_68 _ P_70.out) ?_)
       rintro e w_74 ⟨_,rfl,p_77,h_75⟩
       have P_76:=lH p_77
       obtain ⟨⟨A_78,c_79,A_80,c_81,rfl,_,_⟩,_,_⟩:=p_77
       refine ⟨_,rfl,Qaa B_72.out h_75, ?_⟩
       simp only [Act.put,sqA,sq0,sqS]
       have B_82:=lH (Qaa B_72.out h_75)
       have F_83:=lH (F_73.out.ext h_75)
       have F_84:=lH (P_70.out.ext h_75)
       clear B_72 F_73 P_70
       clear h_75
       refine Qai 20 11 (.tuple #[.agg (patC w21p.1 A_78 w21p.2.1.length c_79 A_80 w21p.2.2.length c_81).toArray,.int .i64 0]) rfl (fun _ _ => Qax (v:=.tuple #[.agg (patC w21p.1 A_78 w21p.2.1.length c_79 A_80 w21p.2.2.length c_81).toArray,.int .i64 0]) rfl) B_82.out ?_
       simp only [Act.put,sqA,sq0,sqS]
       refine Qai 21 32 (.agg (patC w21p.1 A_78 w21p.2.1.length c_79 A_80 w21p.2.2.length c_81).toArray) rfl (fun _ _ => Qa3 (v:=.agg (patC w21p.1 A_78 w21p.2.1.length c_79 A_80 w21p.2.2.length c_81).toArray) rfl rfl) B_82.out ?_
       simp only [Act.put,sqA,sq0,sqS]
       refine Qai 22 33 (.int .i64 0) rfl (fun _ _ => Qa3 (v:=.int .i64 0) rfl rfl) B_82.out ?_
       simp only [Act.put,sqA,sq0,sqS]
       refine oneH 24 ?_
       refine Qae rfl rfl (Qay (cs:=(patC w21p.1 A_78 w21p.2.1.length c_79 A_80 w21p.2.2.length c_81).toArray) rfl rfl F_83.out (show (Tryz.prog.info? 64).map (·.size) = some ((patC w21p.1 A_78 w21p.2.1.length c_79 A_80 w21p.2.2.length c_81).toArray : Array Value).size from Qa7) rfl Qc8 ?_)
       have K_85:=lH (F_83.out.row (patC w21p.1 A_78 w21p.2.1.length c_79 A_80 w21p.2.2.length c_81).toArray)
       have M_87:=lH (Qf3 F_83.out rfl P_76.out (patC w21p.1 A_78 w21p.2.1.length c_79 A_80 w21p.2.2.length c_81).toArray)
       have B_86:=lH (Qad B_82.out gz_65.out (patC w21p.1 A_78 w21p.2.1.length c_79 A_80 w21p.2.2.length c_81).toArray)
       refine ⟨B_86.out, ?_⟩
       clear B_82 F_83 F_84 P_76
       generalize (w_74.setRow g_66 (patC w21p.1 A_78 w21p.2.1.length c_79 A_80 w21p.2.2.length c_81).toArray) = w_88 at *
       refine Qai 25 4 (.int .i64 0) rfl (fun _ _ => Qby (v:=.int .i64 0) rfl) B_86.out ?_
       simp only [Act.put,sqA,sq0,sqS]
       refine wpAnyH_done (by kernel_rfl) ?_ _
       go_wp2_with fail
       go_meet
       case rel => exact ⟨g_66,_,_,_,_,rfl,rfl,K_85.out,M_87.out,B_86.out⟩
     ·refine Qae rfl rfl (Qaz (Qdo _) ?_)
      refine ⟨Qaa B_9.out (Qaf _ _), ?_⟩
      simp only [Act.put,sqA,sq0,sqS]
      have K_89 : Hid (Blk (w_7.alloc (.cells #[.int .u8 0,.int .u16 0,.slice none 0 0,.slice none 0 0] 64)) w_7.heap.size 64 #[.int .u8 0,.int .u16 0,.slice none 0 0,.slice none 0 0]):=Blk.new _ _ _
      have h_90 : Below w_7.heap.size w_7 (w_7.alloc (.cells #[.int .u8 0,.int .u16 0,.slice none 0 0,.slice none 0 0] 64)):=Qaf _ _
      have gz_92 : Hid (w3.heap.size ≤ w_7.heap.size):=B_9.out.size
      generalize (w_7.alloc (.cells #[.int .u8 0,.int .u16 0,.slice none 0 0,.slice none 0 0] 64)) = w_91 at *
      have B_94:=lH (Qaa B_9.out h_90)
      clear B_9
      clear h_90
      generalize w_7.heap.size = g_93 at *
      refine oneH 16 ?_
      refine Qae rfl rfl (Qao (args:=#[.agg (encP w21i).toArray,.int .i64 3]) hcV (by simp only [sqM,sqC,sqN]; rfl) (Qca w21i 3 w_91) ?_)
      rintro e w_95 ⟨rfl,h_96⟩
      refine ⟨_,rfl,Qaa B_94.out h_96, ?_⟩
      simp only [Act.put,sqA,sq0,sqS]
      have B_97:=lH (Qaa B_94.out h_96)
      have F_98:=lH (K_89.out.ext h_96)
      clear B_94 K_89
      clear h_96
      refine Qai 17 29 (.agg (encO w21d).toArray) rfl (fun w' _ => Qbq (vs:=#[(0,.int .u8 4),(1,.agg (encV (Qb0 w21i 2)).toArray),(2,.agg (encV (Qb0 w21i 3)).toArray)]) (by simp only [sqM,sqC,sqN]; rfl) (Qf0 w')) B_97.out ?_
      simp only [Act.put,sqA,sq0,sqS]
      refine oneH 18 ?_
      have P_101:=lH (w21_ops w_95)
      have h_102 : Below w_95.heap.size w_95 (w_95.alloc (.cells [encO w21a,encO w21b,encO w21b,encO w21b,encO w21c,encO w21d].flatten.toArray 70)):=Qaf _ _
      refine Qae rfl rfl (Qhf opSl [encO w21a,encO w21b,encO w21b,encO w21b,encO w21c,encO w21d] rfl (by simp) (by simp [encO]) (by simp) (by simp only [sqM,sqC,sqN]; rfl) ?_)
      refine ⟨Qaa B_97.out h_102, ?_⟩
      simp only [Act.put,sqA,sq0,sqS]
      generalize (w_95.alloc (.cells [encO w21a,encO w21b,encO w21b,encO w21b,encO w21c,encO w21d].flatten.toArray 70)) = w_99 at *
      have B_103:=lH (Qaa B_97.out h_102)
      have F_104:=lH (F_98.out.ext h_102)
      clear B_97 F_98
      clear h_102
      generalize w_95.heap.size = g_100 at *
      refine oneH 19 ?_
      refine Qae rfl rfl (Qao (args:=#[.agg (encP w21i).toArray,.slice (some ⟨g_100,0,none⟩) 6 6]) hcM (by simp only [sqM,sqC,sqN]; rfl) (HM.out w_99 _ P_101.out) ?_)
      rintro e w_105 ⟨_,rfl,p_108,h_106⟩
      have P_107:=lH p_108
      obtain ⟨⟨A_109,c_110,A_111,c_112,rfl,_,_⟩,_,_⟩:=p_108
      refine ⟨_,rfl,Qaa B_103.out h_106, ?_⟩
      simp only [Act.put,sqA,sq0,sqS]
      have B_113:=lH (Qaa B_103.out h_106)
      have F_114:=lH (F_104.out.ext h_106)
      have F_115:=lH (P_101.out.ext h_106)
      clear B_103 F_104 P_101
      clear h_106
      refine Qai 20 11 (.tuple #[.agg (patC w21p.1 A_109 w21p.2.1.length c_110 A_111 w21p.2.2.length c_112).toArray,.int .i64 0]) rfl (fun _ _ => Qax (v:=.tuple #[.agg (patC w21p.1 A_109 w21p.2.1.length c_110 A_111 w21p.2.2.length c_112).toArray,.int .i64 0]) rfl) B_113.out ?_
      simp only [Act.put,sqA,sq0,sqS]
      refine Qai 21 32 (.agg (patC w21p.1 A_109 w21p.2.1.length c_110 A_111 w21p.2.2.length c_112).toArray) rfl (fun _ _ => Qa3 (v:=.agg (patC w21p.1 A_109 w21p.2.1.length c_110 A_111 w21p.2.2.length c_112).toArray) rfl rfl) B_113.out ?_
      simp only [Act.put,sqA,sq0,sqS]
      refine Qai 22 33 (.int .i64 0) rfl (fun _ _ => Qa3 (v:=.int .i64 0) rfl rfl) B_113.out ?_
      simp only [Act.put,sqA,sq0,sqS]
      refine oneH 24 ?_
      refine Qae rfl rfl (Qay (cs:=(patC w21p.1 A_109 w21p.2.1.length c_110 A_111 w21p.2.2.length c_112).toArray) rfl rfl F_114.out (show (Tryz.prog.info? 64).map (·.size) = some ((patC w21p.1 A_109 w21p.2.1.length c_110 A_111 w21p.2.2.length c_112).toArray : Array Value).size from Qa7) rfl Qc8 ?_)
      have K_116:=lH (F_114.out.row (patC w21p.1 A_109 w21p.2.1.length c_110 A_111 w21p.2.2.length c_112).toArray)
      have M_118:=lH (Qf3 F_114.out rfl P_107.out (patC w21p.1 A_109 w21p.2.1.length c_110 A_111 w21p.2.2.length c_112).toArray)
      have B_117:=lH (Qad B_113.out gz_92.out (patC w21p.1 A_109 w21p.2.1.length c_110 A_111 w21p.2.2.length c_112).toArray)
      refine ⟨B_117.out, ?_⟩
      clear B_113 F_114 F_115 P_107
      generalize (w_105.setRow g_93 (patC w21p.1 A_109 w21p.2.1.length c_110 A_111 w21p.2.2.length c_112).toArray) = w_119 at *
      refine Qai 25 4 (.int .i64 0) rfl (fun _ _ => Qby (v:=.int .i64 0) rfl) B_117.out ?_
      simp only [Act.put,sqA,sq0,sqS]
      refine wpAnyH_done (by kernel_rfl) ?_ _
      go_wp2_with fail
      go_meet
      case rel => exact ⟨g_93,_,_,_,_,rfl,rfl,K_116.out,M_118.out,B_117.out⟩
    ·refine Qae rfl rfl (Qaz (Qdo _) ?_)
     refine ⟨Qaa B_6.out (Qaf _ _), ?_⟩
     simp only [Act.put,sqA,sq0,sqS]
     have K_120 : Hid (Blk (w_4.alloc (.cells #[.int .u8 0,.int .u16 0,.slice none 0 0,.slice none 0 0] 64)) w_4.heap.size 64 #[.int .u8 0,.int .u16 0,.slice none 0 0,.slice none 0 0]):=Blk.new _ _ _
     have h_121 : Below w_4.heap.size w_4 (w_4.alloc (.cells #[.int .u8 0,.int .u16 0,.slice none 0 0,.slice none 0 0] 64)):=Qaf _ _
     have gz_123 : Hid (w3.heap.size ≤ w_4.heap.size):=B_6.out.size
     generalize (w_4.alloc (.cells #[.int .u8 0,.int .u16 0,.slice none 0 0,.slice none 0 0] 64)) = w_122 at *
     have B_125:=lH (Qaa B_6.out h_121)
     clear B_6
     clear h_121
     generalize w_4.heap.size = g_124 at *
     refine oneH 14 ?_
     refine Qae rfl rfl (Qao (args:=#[.agg (encP w21i).toArray,.int .i64 2]) hcV (by simp only [sqM,sqC,sqN]; rfl) (Qca w21i 2 w_122) ?_)
     rintro e w_126 ⟨rfl,h_127⟩
     refine ⟨_,rfl,Qaa B_125.out h_127, ?_⟩
     simp only [Act.put,sqA,sq0,sqS]
     have B_128:=lH (Qaa B_125.out h_127)
     have F_129:=lH (K_120.out.ext h_127)
     clear B_125 K_120
     clear h_127
     refine oneH 16 ?_
     refine Qae rfl rfl (Qao (args:=#[.agg (encP w21i).toArray,.int .i64 3]) hcV (by simp only [sqM,sqC,sqN]; rfl) (Qca w21i 3 w_126) ?_)
     rintro e w_130 ⟨rfl,h_131⟩
     refine ⟨_,rfl,Qaa B_128.out h_131, ?_⟩
     simp only [Act.put,sqA,sq0,sqS]
     have B_132:=lH (Qaa B_128.out h_131)
     have F_133:=lH (F_129.out.ext h_131)
     clear B_128 F_129
     clear h_131
     refine Qai 17 29 (.agg (encO w21d).toArray) rfl (fun w' _ => Qbq (vs:=#[(0,.int .u8 4),(1,.agg (encV (Qb0 w21i 2)).toArray),(2,.agg (encV (Qb0 w21i 3)).toArray)]) (by simp only [sqM,sqC,sqN]; rfl) (Qf0 w')) B_132.out ?_
     simp only [Act.put,sqA,sq0,sqS]
     refine oneH 18 ?_
     have P_136:=lH (w21_ops w_130)
     have h_137 : Below w_130.heap.size w_130 (w_130.alloc (.cells [encO w21a,encO w21b,encO w21b,encO w21b,encO w21c,encO w21d].flatten.toArray 70)):=Qaf _ _
     refine Qae rfl rfl (Qhf opSl [encO w21a,encO w21b,encO w21b,encO w21b,encO w21c,encO w21d] rfl (by simp) (by simp [encO]) (by simp) (by simp only [sqM,sqC,sqN]; rfl) ?_)
     refine ⟨Qaa B_132.out h_137, ?_⟩
     simp only [Act.put,sqA,sq0,sqS]
     generalize (w_130.alloc (.cells [encO w21a,encO w21b,encO w21b,encO w21b,encO w21c,encO w21d].flatten.toArray 70)) = w_134 at *
     have B_138:=lH (Qaa B_132.out h_137)
     have F_139:=lH (F_133.out.ext h_137)
     clear B_132 F_133
     clear h_137
     generalize w_130.heap.size = g_135 at *
     refine oneH 19 ?_
     refine Qae rfl rfl (Qao (args:=#[.agg (encP w21i).toArray,.slice (some ⟨g_135,0,none⟩) 6 6]) hcM (by simp only [sqM,sqC,sqN]; rfl) (HM.out w_134 _ P_136.out) ?_)
     rintro e w_140 ⟨_,rfl,p_143,h_141⟩
     have P_142:=lH p_143
     obtain ⟨⟨A_144,c_145,A_146,c_147,rfl,_,_⟩,_,_⟩:=p_143
     refine ⟨_,rfl,Qaa B_138.out h_141, ?_⟩
     simp only [Act.put,sqA,sq0,sqS]
     have B_148:=lH (Qaa B_138.out h_141)
     have F_149:=lH (F_139.out.ext h_141)
     have F_150:=lH (P_136.out.ext h_141)
     clear B_138 F_139 P_136
     clear h_141
     refine Qai 20 11 (.tuple #[.agg (patC w21p.1 A_144 w21p.2.1.length c_145 A_146 w21p.2.2.length c_147).toArray,.int .i64 0]) rfl (fun _ _ => Qax (v:=.tuple #[.agg (patC w21p.1 A_144 w21p.2.1.length c_145 A_146 w21p.2.2.length c_147).toArray,.int .i64 0]) rfl) B_148.out ?_
     simp only [Act.put,sqA,sq0,sqS]
     refine Qai 21 32 (.agg (patC w21p.1 A_144 w21p.2.1.length c_145 A_146 w21p.2.2.length c_147).toArray) rfl (fun _ _ => Qa3 (v:=.agg (patC w21p.1 A_144 w21p.2.1.length c_145 A_146 w21p.2.2.length c_147).toArray) rfl rfl) B_148.out ?_
     simp only [Act.put,sqA,sq0,sqS]
     refine Qai 22 33 (.int .i64 0) rfl (fun _ _ => Qa3 (v:=.int .i64 0) rfl rfl) B_148.out ?_
     simp only [Act.put,sqA,sq0,sqS]
     refine oneH 24 ?_
     refine Qae rfl rfl (Qay (cs:=(patC w21p.1 A_144 w21p.2.1.length c_145 A_146 w21p.2.2.length c_147).toArray) rfl rfl F_149.out (show (Tryz.prog.info? 64).map (·.size) = some ((patC w21p.1 A_144 w21p.2.1.length c_145 A_146 w21p.2.2.length c_147).toArray : Array Value).size from Qa7) rfl Qc8 ?_)
     have K_151:=lH (F_149.out.row (patC w21p.1 A_144 w21p.2.1.length c_145 A_146 w21p.2.2.length c_147).toArray)
     have M_153:=lH (Qf3 F_149.out rfl P_142.out (patC w21p.1 A_144 w21p.2.1.length c_145 A_146 w21p.2.2.length c_147).toArray)
     have B_152:=lH (Qad B_148.out gz_123.out (patC w21p.1 A_144 w21p.2.1.length c_145 A_146 w21p.2.2.length c_147).toArray)
     refine ⟨B_152.out, ?_⟩
     clear B_148 F_149 F_150 P_142
     generalize (w_140.setRow g_124 (patC w21p.1 A_144 w21p.2.1.length c_145 A_146 w21p.2.2.length c_147).toArray) = w_154 at *
     refine Qai 25 4 (.int .i64 0) rfl (fun _ _ => Qby (v:=.int .i64 0) rfl) B_152.out ?_
     simp only [Act.put,sqA,sq0,sqS]
     refine wpAnyH_done (by kernel_rfl) ?_ _
     go_wp2_with fail
     go_meet
     case rel => exact ⟨g_124,_,_,_,_,rfl,rfl,K_151.out,M_153.out,B_152.out⟩
   ·refine Qae rfl rfl (Qaz (Qdo _) ?_)
    refine ⟨Qaa B_3.out (Qaf _ _), ?_⟩
    simp only [Act.put,sqA,sq0,sqS]
    have K_155 : Hid (Blk (w_1.alloc (.cells #[.int .u8 0,.int .u16 0,.slice none 0 0,.slice none 0 0] 64)) w_1.heap.size 64 #[.int .u8 0,.int .u16 0,.slice none 0 0,.slice none 0 0]):=Blk.new _ _ _
    have h_156 : Below w_1.heap.size w_1 (w_1.alloc (.cells #[.int .u8 0,.int .u16 0,.slice none 0 0,.slice none 0 0] 64)):=Qaf _ _
    have gz_158 : Hid (w3.heap.size ≤ w_1.heap.size):=B_3.out.size
    generalize (w_1.alloc (.cells #[.int .u8 0,.int .u16 0,.slice none 0 0,.slice none 0 0] 64)) = w_157 at *
    have B_160:=lH (Qaa B_3.out h_156)
    clear B_3
    clear h_156
    generalize w_1.heap.size = g_159 at *
    refine oneH 11 ?_
    refine Qae rfl rfl (Qao (args:=#[.agg (encP w21i).toArray,.int .i64 2]) hcV (by simp only [sqM,sqC,sqN]; rfl) (Qca w21i 2 w_157) ?_)
    rintro e w_161 ⟨rfl,h_162⟩
    refine ⟨_,rfl,Qaa B_160.out h_162, ?_⟩
    simp only [Act.put,sqA,sq0,sqS]
    have B_163:=lH (Qaa B_160.out h_162)
    have F_164:=lH (K_155.out.ext h_162)
    clear B_160 K_155
    clear h_162
    refine Qai 12 24 (.agg (encO w21c).toArray) rfl (fun w' _ => Qbq (vs:=#[(0,.int .u8 4),(1,.agg (encV (Qb0 w21i 1)).toArray),(2,.agg (encV (Qb0 w21i 2)).toArray)]) (by simp only [sqM,sqC,sqN]; rfl) (build_w21c w')) B_163.out ?_
    simp only [Act.put,sqA,sq0,sqS]
    refine oneH 14 ?_
    refine Qae rfl rfl (Qao (args:=#[.agg (encP w21i).toArray,.int .i64 2]) hcV (by simp only [sqM,sqC,sqN]; rfl) (Qca w21i 2 w_161) ?_)
    rintro e w_165 ⟨rfl,h_166⟩
    refine ⟨_,rfl,Qaa B_163.out h_166, ?_⟩
    simp only [Act.put,sqA,sq0,sqS]
    have B_167:=lH (Qaa B_163.out h_166)
    have F_168:=lH (F_164.out.ext h_166)
    clear B_163 F_164
    clear h_166
    refine oneH 16 ?_
    refine Qae rfl rfl (Qao (args:=#[.agg (encP w21i).toArray,.int .i64 3]) hcV (by simp only [sqM,sqC,sqN]; rfl) (Qca w21i 3 w_165) ?_)
    rintro e w_169 ⟨rfl,h_170⟩
    refine ⟨_,rfl,Qaa B_167.out h_170, ?_⟩
    simp only [Act.put,sqA,sq0,sqS]
    have B_171:=lH (Qaa B_167.out h_170)
    have F_172:=lH (F_168.out.ext h_170)
    clear B_167 F_168
    clear h_170
    refine Qai 17 29 (.agg (encO w21d).toArray) rfl (fun w' _ => Qbq (vs:=#[(0,.int .u8 4),(1,.agg (encV (Qb0 w21i 2)).toArray),(2,.agg (encV (Qb0 w21i 3)).toArray)]) (by simp only [sqM,sqC,sqN]; rfl) (Qf0 w')) B_171.out ?_
    simp only [Act.put,sqA,sq0,sqS]
    refine oneH 18 ?_
    have P_175:=lH (w21_ops w_169)
    have h_176 : Below w_169.heap.size w_169 (w_169.alloc (.cells [encO w21a,encO w21b,encO w21b,encO w21b,encO w21c,encO w21d].flatten.toArray 70)):=Qaf _ _
    refine Qae rfl rfl (Qhf opSl [encO w21a,encO w21b,encO w21b,encO w21b,encO w21c,encO w21d] rfl (by simp) (by simp [encO]) (by simp) (by simp only [sqM,sqC,sqN]; rfl) ?_)
    refine ⟨Qaa B_171.out h_176, ?_⟩
    simp only [Act.put,sqA,sq0,sqS]
    generalize (w_169.alloc (.cells [encO w21a,encO w21b,encO w21b,encO w21b,encO w21c,encO w21d].flatten.toArray 70)) = w_173 at *
    have B_177:=lH (Qaa B_171.out h_176)
    have F_178:=lH (F_172.out.ext h_176)
    clear B_171 F_172
    clear h_176
    generalize w_169.heap.size = g_174 at *
    refine oneH 19 ?_
    refine Qae rfl rfl (Qao (args:=#[.agg (encP w21i).toArray,.slice (some ⟨g_174,0,none⟩) 6 6]) hcM (by simp only [sqM,sqC,sqN]; rfl) (HM.out w_173 _ P_175.out) ?_)
    rintro e w_179 ⟨_,rfl,p_182,h_180⟩
    have P_181:=lH p_182
    obtain ⟨⟨A_183,c_184,A_185,c_186,rfl,_,_⟩,_,_⟩:=p_182
    refine ⟨_,rfl,Qaa B_177.out h_180, ?_⟩
    simp only [Act.put,sqA,sq0,sqS]
    have B_187:=lH (Qaa B_177.out h_180)
    have F_188:=lH (F_178.out.ext h_180)
    have F_189:=lH (P_175.out.ext h_180)
    clear B_177 F_178 P_175
    clear h_180
    refine Qai 20 11 (.tuple #[.agg (patC w21p.1 A_183 w21p.2.1.length c_184 A_185 w21p.2.2.length c_186).toArray,.int .i64 0]) rfl (fun _ _ => Qax (v:=.tuple #[.agg (patC w21p.1 A_183 w21p.2.1.length c_184 A_185 w21p.2.2.length c_186).toArray,.int .i64 0]) rfl) B_187.out ?_
    simp only [Act.put,sqA,sq0,sqS]
    refine Qai 21 32 (.agg (patC w21p.1 A_183 w21p.2.1.length c_184 A_185 w21p.2.2.length c_186).toArray) rfl (fun _ _ => Qa3 (v:=.agg (patC w21p.1 A_183 w21p.2.1.length c_184 A_185 w21p.2.2.length c_186).toArray) rfl rfl) B_187.out ?_
    simp only [Act.put,sqA,sq0,sqS]
    refine Qai 22 33 (.int .i64 0) rfl (fun _ _ => Qa3 (v:=.int .i64 0) rfl rfl) B_187.out ?_
    simp only [Act.put,sqA,sq0,sqS]
    refine oneH 24 ?_
    refine Qae rfl rfl (Qay (cs:=(patC w21p.1 A_183 w21p.2.1.length c_184 A_185 w21p.2.2.length c_186).toArray) rfl rfl F_188.out (show (Tryz.prog.info? 64).map (·.size) = some ((patC w21p.1 A_183 w21p.2.1.length c_184 A_185 w21p.2.2.length c_186).toArray : Array Value).size from Qa7) rfl Qc8 ?_)
    have K_190:=lH (F_188.out.row (patC w21p.1 A_183 w21p.2.1.length c_184 A_185 w21p.2.2.length c_186).toArray)
    have M_192:=lH (Qf3 F_188.out rfl P_181.out (patC w21p.1 A_183 w21p.2.1.length c_184 A_185 w21p.2.2.length c_186).toArray)
    have B_191:=lH (Qad B_187.out gz_158.out (patC w21p.1 A_183 w21p.2.1.length c_184 A_185 w21p.2.2.length c_186).toArray)
    refine ⟨B_191.out, ?_⟩
    clear B_187 F_188 F_189 P_181
    generalize (w_179.setRow g_159 (patC w21p.1 A_183 w21p.2.1.length c_184 A_185 w21p.2.2.length c_186).toArray) = w_193 at *
    refine Qai 25 4 (.int .i64 0) rfl (fun _ _ => Qby (v:=.int .i64 0) rfl) B_191.out ?_
    simp only [Act.put,sqA,sq0,sqS]
    refine wpAnyH_done (by kernel_rfl) ?_ _
    go_wp2_with fail
    go_meet
    case rel => exact ⟨g_159,_,_,_,_,rfl,rfl,K_190.out,M_192.out,B_191.out⟩
  ·refine Qae rfl rfl (Qaz (Qdo _) ?_)
   refine ⟨Qaa B4.out (Qaf _ _), ?_⟩
   simp only [Act.put,sqA,sq0,sqS]
   have K_194 : Hid (Blk (w4.alloc (.cells #[.int .u8 0,.int .u16 0,.slice none 0 0,.slice none 0 0] 64)) w4.heap.size 64 #[.int .u8 0,.int .u16 0,.slice none 0 0,.slice none 0 0]):=Blk.new _ _ _
   have h_195 : Below w4.heap.size w4 (w4.alloc (.cells #[.int .u8 0,.int .u16 0,.slice none 0 0,.slice none 0 0] 64)):=Qaf _ _
   have gz_197 : Hid (w3.heap.size ≤ w4.heap.size):=B4.out.size
   generalize (w4.alloc (.cells #[.int .u8 0,.int .u16 0,.slice none 0 0,.slice none 0 0] 64)) = w_196 at *
   have B_199:=lH (Qaa B4.out h_195)
   clear B4
   clear h_195
   generalize w4.heap.size = g_198 at *
   refine oneH 9 ?_
   refine Qae rfl rfl (Qao (args:=#[.agg (encP w21i).toArray,.int .i64 1]) hcV (by simp only [sqM,sqC,sqN]; rfl) (Qca w21i 1 w_196) ?_)
   rintro e w_200 ⟨rfl,h_201⟩
   refine ⟨_,rfl,Qaa B_199.out h_201, ?_⟩
   simp only [Act.put,sqA,sq0,sqS]
   have B_202:=lH (Qaa B_199.out h_201)
   have F_203:=lH (K_194.out.ext h_201)
   clear B_199 K_194
   clear h_201
   refine oneH 11 ?_
   refine Qae rfl rfl (Qao (args:=#[.agg (encP w21i).toArray,.int .i64 2]) hcV (by simp only [sqM,sqC,sqN]; rfl) (Qca w21i 2 w_200) ?_)
   rintro e w_204 ⟨rfl,h_205⟩
   refine ⟨_,rfl,Qaa B_202.out h_205, ?_⟩
   simp only [Act.put,sqA,sq0,sqS]
   have B_206:=lH (Qaa B_202.out h_205)
   have F_207:=lH (F_203.out.ext h_205)
   clear B_202 F_203
   clear h_205
   refine Qai 12 24 (.agg (encO w21c).toArray) rfl (fun w' _ => Qbq (vs:=#[(0,.int .u8 4),(1,.agg (encV (Qb0 w21i 1)).toArray),(2,.agg (encV (Qb0 w21i 2)).toArray)]) (by simp only [sqM,sqC,sqN]; rfl) (build_w21c w')) B_206.out ?_
   simp only [Act.put,sqA,sq0,sqS]
   refine oneH 14 ?_
   refine Qae rfl rfl (Qao (args:=#[.agg (encP w21i).toArray,.int .i64 2]) hcV (by simp only [sqM,sqC,sqN]; rfl) (Qca w21i 2 w_204) ?_)
   rintro e w_208 ⟨rfl,h_209⟩
   refine ⟨_,rfl,Qaa B_206.out h_209, ?_⟩
   simp only [Act.put,sqA,sq0,sqS]
   have B_210:=lH (Qaa B_206.out h_209)
   have F_211:=lH (F_207.out.ext h_209)
   clear B_206 F_207
   clear h_209
   refine oneH 16 ?_
   refine Qae rfl rfl (Qao (args:=#[.agg (encP w21i).toArray,.int .i64 3]) hcV (by simp only [sqM,sqC,sqN]; rfl) (Qca w21i 3 w_208) ?_)
   rintro e w_212 ⟨rfl,h_213⟩
   refine ⟨_,rfl,Qaa B_210.out h_213, ?_⟩
   simp only [Act.put,sqA,sq0,sqS]
   have B_214:=lH (Qaa B_210.out h_213)
   have F_215:=lH (F_211.out.ext h_213)
   clear B_210 F_211
   clear h_213
   refine Qai 17 29 (.agg (encO w21d).toArray) rfl (fun w' _ => Qbq (vs:=#[(0,.int .u8 4),(1,.agg (encV (Qb0 w21i 2)).toArray),(2,.agg (encV (Qb0 w21i 3)).toArray)]) (by simp only [sqM,sqC,sqN]; rfl) (Qf0 w')) B_214.out ?_
   simp only [Act.put,sqA,sq0,sqS]
   refine oneH 18 ?_
   have P_218:=lH (w21_ops w_212)
   have h_219 : Below w_212.heap.size w_212 (w_212.alloc (.cells [encO w21a,encO w21b,encO w21b,encO w21b,encO w21c,encO w21d].flatten.toArray 70)):=Qaf _ _
   refine Qae rfl rfl (Qhf opSl [encO w21a,encO w21b,encO w21b,encO w21b,encO w21c,encO w21d] rfl (by simp) (by simp [encO]) (by simp) (by simp only [sqM,sqC,sqN]; rfl) ?_)
   refine ⟨Qaa B_214.out h_219, ?_⟩
   simp only [Act.put,sqA,sq0,sqS]
   generalize (w_212.alloc (.cells [encO w21a,encO w21b,encO w21b,encO w21b,encO w21c,encO w21d].flatten.toArray 70)) = w_216 at *
   have B_220:=lH (Qaa B_214.out h_219)
   have F_221:=lH (F_215.out.ext h_219)
   clear B_214 F_215
   clear h_219
   generalize w_212.heap.size = g_217 at *
   refine oneH 19 ?_
   refine Qae rfl rfl (Qao (args:=#[.agg (encP w21i).toArray,.slice (some ⟨g_217,0,none⟩) 6 6]) hcM (by simp only [sqM,sqC,sqN]; rfl) (HM.out w_216 _ P_218.out) ?_)
   rintro e w_222 ⟨_,rfl,p_225,h_223⟩
   have P_224:=lH p_225
   obtain ⟨⟨A_226,c_227,A_228,c_229,rfl,_,_⟩,_,_⟩:=p_225
   refine ⟨_,rfl,Qaa B_220.out h_223, ?_⟩
   simp only [Act.put,sqA,sq0,sqS]
   have B_230:=lH (Qaa B_220.out h_223)
   have F_231:=lH (F_221.out.ext h_223)
   have F_232:=lH (P_218.out.ext h_223)
   clear B_220 F_221 P_218
   clear h_223
   refine Qai 20 11 (.tuple #[.agg (patC w21p.1 A_226 w21p.2.1.length c_227 A_228 w21p.2.2.length c_229).toArray,.int .i64 0]) rfl (fun _ _ => Qax (v:=.tuple #[.agg (patC w21p.1 A_226 w21p.2.1.length c_227 A_228 w21p.2.2.length c_229).toArray,.int .i64 0]) rfl) B_230.out ?_
   simp only [Act.put,sqA,sq0,sqS]
   refine Qai 21 32 (.agg (patC w21p.1 A_226 w21p.2.1.length c_227 A_228 w21p.2.2.length c_229).toArray) rfl (fun _ _ => Qa3 (v:=.agg (patC w21p.1 A_226 w21p.2.1.length c_227 A_228 w21p.2.2.length c_229).toArray) rfl rfl) B_230.out ?_
   simp only [Act.put,sqA,sq0,sqS]
   refine Qai 22 33 (.int .i64 0) rfl (fun _ _ => Qa3 (v:=.int .i64 0) rfl rfl) B_230.out ?_
   simp only [Act.put,sqA,sq0,sqS]
   refine oneH 24 ?_
   refine Qae rfl rfl (Qay (cs:=(patC w21p.1 A_226 w21p.2.1.length c_227 A_228 w21p.2.2.length c_229).toArray) rfl rfl F_231.out (show (Tryz.prog.info? 64).map (·.size) = some ((patC w21p.1 A_226 w21p.2.1.length c_227 A_228 w21p.2.2.length c_229).toArray : Array Value).size from Qa7) rfl Qc8 ?_)
   have K_233:=lH (F_231.out.row (patC w21p.1 A_226 w21p.2.1.length c_227 A_228 w21p.2.2.length c_229).toArray)
   have M_235:=lH (Qf3 F_231.out rfl P_224.out (patC w21p.1 A_226 w21p.2.1.length c_227 A_228 w21p.2.2.length c_229).toArray)
   have B_234:=lH (Qad B_230.out gz_197.out (patC w21p.1 A_226 w21p.2.1.length c_227 A_228 w21p.2.2.length c_229).toArray)
   refine ⟨B_234.out, ?_⟩
   clear B_230 F_231 F_232 P_224
   generalize (w_222.setRow g_198 (patC w21p.1 A_226 w21p.2.1.length c_227 A_228 w21p.2.2.length c_229).toArray) = w_236 at *
   refine Qai 25 4 (.int .i64 0) rfl (fun _ _ => Qby (v:=.int .i64 0) rfl) B_234.out ?_
   simp only [Act.put,sqA,sq0,sqS]
   refine wpAnyH_done (by kernel_rfl) ?_ _
   go_wp2_with fail
   go_meet
   case rel => exact ⟨g_198,_,_,_,_,rfl,rfl,K_233.out,M_235.out,B_234.out⟩
 case rest =>
  obtain ⟨gp,A1,c1,A2,c2,rfl,rfl,KP,PA,bx⟩:=hcut
  obtain ⟨w5,rfl⟩ : ∃ wx,wx = wc:=⟨_,rfl⟩
  have KP:=lH KP
  have PA:=lH PA
  have RA5:=lH (RA.out w5 bx)
  have B5:=lH (B3.out.trans (bx.mono B3.out.size))
  have RF5:=lH (fun (u : World) (hu : Below w5.heap.size w5 u) => RF.out u (Qaa bx hu))
  clear bx HM hcM hcV RA RF B3
  go_wp2_with (refine wpList_load_mid rfl 25 _ (by rfl) ga 0 (by rfl) _ _ RA5.out Qan rfl Qaq ?_)
  refine (Qca w21i 2 w5).mono ?_
  rintro e w51 ⟨rfl,b51⟩
  go_wp2_with fail
  have HO:=ops_new w51 [w21k] (by simp [OpV.ok,w21k,maxLen])
  have b52 : Below w5.heap.size w5 (w51.alloc (.cells ([w21k].flatMap encO).toArray 70)):=b51.alloc b51.size _
  have KP2:=lH (KP.out.ext b52)
  have PA2:=lH (PA.out.ext b52)
  have B52:=lH (B5.out.trans (b52.mono B5.out.size))
  refine (HN.out _ _ HO).mono ?_
  rintro e w6 ⟨cs,rfl,pb,b6⟩
  have RF6:=lH (fun (u : World) (hu : Below w6.heap.size w6 u) => RF5.out u (Qaa (Qaa b52 b6) hu))
  have KP6:=lH (KP2.out.ext b6)
  have PA6:=lH (PA2.out.ext b6)
  have PB:=lH pb
  have B6:=lH (B52.out.trans (b6.mono B52.out.size))
  obtain ⟨⟨A3,c3,A4,c4,rfl,_,_⟩,_,_⟩:=pb
  clear b6 b52 b51 HO KP PA KP2 PA2 B52 B5 RF5 RA5 HN
  have KQ : Hid (Blk ((w6.alloc (.cells #[.int .u8 0,.int .u16 0,.slice none 0 0,.slice none 0 0] 64)).setRow w6.heap.size (patC w21q.1 A3 w21q.2.1.length c3 A4 w21q.2.2.length c4).toArray) w6.heap.size 64 (patC w21q.1 A3 w21q.2.1.length c3 A4 w21q.2.2.length c4).toArray):=(Blk.new _ _ _).row _
  have BQ : Hid (Below w6.heap.size w6 ((w6.alloc (.cells #[.int .u8 0,.int .u16 0,.slice none 0 0,.slice none 0 0] 64)).setRow w6.heap.size (patC w21q.1 A3 w21q.2.1.length c3 A4 w21q.2.2.length c4).toArray)):=Qad (Qaf w6 _) (Nat.le_refl _) _
  go_upto_region 5 with (first
   | (refine Qam (Qdo _) ?_)
   | (refine wpList_store_row rfl 64 _ _ (by rfl) w6.heap.size (patC w21q.1 A3 w21q.2.1.length c3 A4 w21q.2.2.length c4).toArray (by rfl) (by rfl) _ _ (Blk.new _ _ _) Qa7 rfl Qc8 ?_))
  have KP7:=lH (KP6.out.ext BQ.out)
  have PA7:=lH (PA6.out.ext BQ.out)
  have PB7:=lH (PB.out.ext BQ.out)
  have B7:=lH (B6.out.trans (BQ.out.mono B6.out.size))
  have RF7:=lH (fun (u : World) (hu : Below (((w6.alloc (.cells #[.int .u8 0,.int .u16 0,.slice none 0 0,.slice none 0 0] 64)).setRow w6.heap.size (patC w21q.1 A3 w21q.2.1.length c3 A4 w21q.2.2.length c4).toArray)).heap.size ((w6.alloc (.cells #[.int .u8 0,.int .u16 0,.slice none 0 0,.slice none 0 0] 64)).setRow w6.heap.size (patC w21q.1 A3 w21q.2.1.length c3 A4 w21q.2.2.length c4).toArray) u) => RF6.out u (Qaa BQ.out hu))
  clear KP6 PA6 PB B6 BQ RF6
  generalize ((w6.alloc (.cells #[.int .u8 0,.int .u16 0,.slice none 0 0,.slice none 0 0] 64)).setRow w6.heap.size (patC w21q.1 A3 w21q.2.1.length c3 A4 w21q.2.2.length c4).toArray) = w7 at *
  generalize w6.heap.size = gq at *
  have RP:=lH (fun (u : World) (hu : Below w7.heap.size w7 u) => Qgh (KP7.out.ext hu))
  have RQ:=lH (fun (u : World) (hu : Below w7.heap.size w7 u) => Qgh (KQ.out.ext hu))
  have PP:=lH (fun (u : World) (hu : Below w7.heap.size w7 u) => PA7.out.ext hu)
  have PQ:=lH (fun (u : World) (hu : Below w7.heap.size w7 u) => PB7.out.ext hu)
  clear KP7 KQ PA7 PB7
  have hcB : ∀ args u,(callFunc 6 args).run Tryz.prog u = .ok (.enter 6 args) u:=enters_of Tryz.func6 (by kernel_rfl) rfl
  have hcO : ∀ args u,(callFunc 9 args).run Tryz.prog u = .ok (.enter 9 args) u:=enters_of Tryz.func9 (by kernel_rfl) rfl
  refine wp_region_held (S:=fun w' => Below w7.heap.size w7 w') Qav ?_
  change wpAnyH _ _ _ _ _ _ _ _ w7.drew
  have B8 : Hid (Below w7.heap.size w7 w7.drew):=(Below.refl _ _).drew
  generalize w7.drew = w8 at B8 ⊢
  simp only [List.size_toArray,List.length_cons,List.length_nil]
  refine Qai 0 43 (.agg (patC w21p.1 A1 w21p.2.1.length c1 A2 w21p.2.2.length c2).toArray) rfl (fun w' h => Qb3 rfl (RP.out w' h) Qbf rfl Qa7) B8.out ?_
  simp only [Act.put,sqA,sq0,sqS]
  refine Qai 1 44 (.agg (patC w21q.1 A3 w21q.2.1.length c3 A4 w21q.2.2.length c4).toArray) rfl (fun w' h => Qb3 rfl (RQ.out w' h) Qbf rfl Qa7) B8.out ?_
  simp only [Act.put,sqA,sq0,sqS]
  refine Qai 4 47 (.agg (encV w21f).toArray) rfl (fun w' h => Qb3 rfl (RF7.out w' h) Qaj rfl Qal) B8.out ?_
  simp only [Act.put,sqA,sq0,sqS]
  refine oneH 2 ?_
  have P_3:=lH (pats_two (PP.out w8 B8.out) (PQ.out w8 B8.out))
  have h_4 : Below w8.heap.size w8 (w8.alloc (.cells [(patC w21p.1 A1 w21p.2.1.length c1 A2 w21p.2.2.length c2),(patC w21q.1 A3 w21q.2.1.length c3 A4 w21q.2.2.length c4)].flatten.toArray 64)):=Qaf _ _
  refine Qae rfl rfl (Qhf Qcv [(patC w21p.1 A1 w21p.2.1.length c1 A2 w21p.2.2.length c2),(patC w21q.1 A3 w21q.2.1.length c3 A4 w21q.2.2.length c4)] rfl (by simp) (by simp [patC]) (by simp) (by simp only [sqM,sqC,sqN]; rfl) ?_)
  refine ⟨Qaa B8.out h_4, ?_⟩
  simp only [Act.put,sqA,sq0,sqS]
  generalize (w8.alloc (.cells [(patC w21p.1 A1 w21p.2.1.length c1 A2 w21p.2.2.length c2),(patC w21q.1 A3 w21q.2.1.length c3 A4 w21q.2.2.length c4)].flatten.toArray 64)) = w_1 at *
  have B_5:=lH (Qaa B8.out h_4)
  clear B8
  clear h_4
  generalize w8.heap.size = g_2 at *
  refine oneH 3 ?_
  have HBu:=lH (build20_any w_1 [w21p,w21q] _ 2 2 (by decide) P_3.out)
  rw [w21_run] at HBu
  refine Qae rfl rfl (Qao (args:=#[.slice (some ⟨g_2,0,none⟩) 2 2]) hcB (by simp only [sqM,sqC,sqN]; rfl) HBu.out ?_)
  rintro e w_6 ⟨F_11,g_10,rfl,hG_8,_,h_7⟩
  have G_9:=lH hG_8
  clear HBu hG_8
  refine ⟨_,rfl,Qaa B_5.out h_7, ?_⟩
  simp only [Act.put,sqA,sq0,sqS]
  have B_12:=lH (Qaa B_5.out h_7)
  have F_13:=lH (P_3.out.ext h_7)
  clear B_5 P_3
  clear h_7
  refine oneH 5 ?_
  refine Qae rfl rfl (Qao (args:=#[.pointer (some ⟨g_10,0,none⟩),.agg (encV w21f).toArray]) hcO (by simp only [sqM,sqC,sqN]; rfl) (lof_any G_9.out (by decide) w21f) ?_)
  rintro e w_14 ⟨gs,R,rfl,hSh,hR,_,b9⟩
  obtain rfl:=w21_rel hR
  have SH:=lH hSh
  clear hR hSh
  refine ⟨_,rfl,Qaa B_12.out b9, ?_⟩
  simp only [Act.put,sqA,sq0,sqS]
  have B_15:=lH (Qaa B_12.out b9)
  have F_16:=lH (F_13.out.ext b9)
  have F_17:=lH (G_9.out.ext b9)
  clear B_12 F_13 G_9
  clear b9
  refine Qai 6 7 (.pointer (some ⟨gs,0,none⟩)) rfl (fun _ _ => Qby (v:=.pointer (some ⟨gs,0,none⟩)) rfl) B_15.out ?_
  simp only [Act.put,sqA,sq0,sqS]
  refine wpAnyH_done (by kernel_rfl) ?_ _
  rw [w21_len] at SH
  have B9:=lH (B7.out.trans (B_15.out.mono B7.out.size))
  obtain ⟨w9,rfl⟩ : ∃ wx,wx = w_14:=⟨_,rfl⟩
  clear B_15 F_16 F_17
  clear RP RQ RF7 PP PQ B7 hcB hcO
  have HA:=lH (fun (u : World) (hu : Below w9.heap.size w9 u) => alive21_any (SH.out.ext hu) (by rw [w21_ord.1]; decide) (fun i hi => by rw [w21_len]; exact w21_ord.2 i hi))
  rw [w21_live] at HA
  have HR:=lH (fun (u : World) (hu : Below w9.heap.size w9 u) => rel21_any (SH.out.ext hu))
  have HL:=lH (fun (u : World) (hu : Below w9.heap.size w9 u) => Qih (SH.out.ext hu))
  have HF:=lH (fun (u : World) (hu : Below w9.heap.size w9 u) => firm21_any (SH.out.ext hu) (by rw [w21_len]; decide) 1)
  rw [w21_len] at HR HL HF
  rw [w21_firm] at HF
  clear SH
  go_wp2_with fail
  refine (HA.out w9 (Below.refl _ _)).mono ?_
  rintro e w10 ⟨_,rfl,o10,b10⟩
  obtain ⟨A10,c10,rfl,_,s10⟩:=Sl.of_own o10
  have S10:=lH s10
  have B10:=lH b10
  clear o10 s10 b10 HA
  have S11 : Hid (Sl (w10.alloc (.cells #[.int .i64 0,.int .i64 2] 3)) (w10.alloc (.cells #[.int .i64 0,.int .i64 2] 3)).heap.size 1 A10 2 (encN [0,2])):=Qd2 S10.out (Qaf _ _)
  have HI:=lH (ints_same [0,2] _ _ _ 2 c10 2 rfl S11.out (sl_two (w:=w10)) (by decide))
  have B11 : Hid (Below w9.heap.size w9 (w10.alloc (.cells #[.int .i64 0,.int .i64 2] 3))):=B10.out.alloc B10.out.size _
  go_wp2_with fail
  refine HI.out.mono ?_
  rintro e w12 ⟨rfl,hq⟩
  have B12 : Hid (Below w9.heap.size w9 w12):=by obtain ⟨q,rfl⟩:=hq; exact Qat B11.out q
  clear S10 S11 HI B10 B11 hq
  go_wp2_with fail
  refine (HR.out w12 B12.out).mono ?_
  rintro e w13 ⟨gr,rfl,hr,h13⟩
  rw [h13] at hr ⊢
  clear h13
  have HB:=lH (w21_before hr)
  clear hr HR
  go_wp2_with fail
  refine HB.out.mono ?_
  rintro e w13 ⟨rfl,h13⟩
  rw [← h13]
  clear h13
  clear HB
  go_wp2_with fail
  refine (HL.out w12 B12.out).mono ?_
  rintro e w13 ⟨rfl,h13⟩
  rw [← h13]
  clear h13
  clear HL
  go_wp2_with fail
  refine (HF.out w12 B12.out).mono ?_
  rintro e w13 ⟨rfl,h13⟩
  rw [← h13]
  clear h13
  clear HF
  have BZ:=lH (B9.out.trans (B12.out.mono B9.out.size))
  go_wp2
  go_ret
  exact ⟨rfl,BZ.out⟩
end Go.Proofs.YtdafiipedlglpaaGreat

/- Of nil there are no lines: the statement walked. -/
namespace Go.Proofs.YtdafiipedlglpaaGreat
open Go.RowKit

theorem u8_bdB {z : Int} (h : (Lit.int .u8 z).wf = true) : 0 ≤ z ∧ z < 256:=by simp [Lit.wf,IntKind.min,IntKind.max,IntKind.signed,IntKind.bits] at h; omega
theorem u16_bdB {z : Int} (h : (Lit.int .u16 z).wf = true) : 0 ≤ z ∧ z < 65536:=by simp [Lit.wf,IntKind.min,IntKind.max,IntKind.signed,IntKind.bits] at h; omega
theorem vid_flatB : ∀ {cs : List Value},FlatOk [.int .u8,.int .u16,.int .u8] cs → ∃ v : VidV,cs = encV v
 | [_,_,_],⟨⟨a,rfl,ha⟩,⟨s,rfl,hs⟩,⟨n,rfl,hn⟩,_⟩ => by
  have h1:=u8_bdB ha
  have h2:=u16_bdB hs
  have h3:=u8_bdB hn
  refine ⟨((⟨a.toNat,by omega⟩,⟨s.toNat,by omega⟩),⟨n.toNat,by omega⟩), ?_⟩
  show _ = [Value.int .u8 ((a.toNat : Nat) : Int),.int .u16 ((s.toNat : Nat) : Int),.int .u8 ((n.toNat : Nat) : Int)]
  rw [Int.toNat_of_nonneg h1.1,Int.toNat_of_nonneg h2.1,Int.toNat_of_nonneg h3.1]
end Go.Proofs.YtdafiipedlglpaaGreat

/- Is a list in order: walked (topo.Fits), told of lists that are. -/
namespace Go.Proofs.YtdafiipedlglpaaGreat
open Go.RowKit

end Go.Proofs.YtdafiipedlglpaaGreat

/- What is dead keeps its place: plain laws; no program in sight. -/
namespace Go.Proofs.YtdafiipedlglpaaGreat
open Go.RowKit

theorem posL_before {l : List Qa4} {v : VidV} {a : Nat} {y : Qa4} (h : a < posL l v) (hy : l[a]? = some y) : y.1 ≠ v:=by
 obtain ⟨ha,rfl⟩:=List.getElem?_eq_some_iff.1 hy
 exact of_decide_eq_false (List.not_of_lt_findIdx h)
theorem indexVidsL (b o n c k : Nat) (hk : k < n) (w : World) : (Instr.indexAt 35 (.slice (some ⟨b,o,none⟩) n c) (.int .i64 ((k : Nat) : Int))).run Tryz.prog w = .ok (.pointer (some ⟨b,o + k * 3,none⟩)) w:=by
 have h0 : (0 : Int) ≤ (k : Int):=by omega
 have h1 : (k : Int) < (n : Int):=by omega
 simp [go_sem,h0,h1]
end Go.Proofs.YtdafiipedlglpaaGreat

/- What is dead keeps its place: the statement walked. -/
namespace Go.Proofs.YtdafiipedlglpaaGreat
open Go.RowKit

theorem fews_atL {l : List PatV} {m : Int} (h : fewsB l m = true) : (l.length : Int) ≤ m:=by
 unfold fewsB at h
 rw [Bool.and_eq_true,decide_eq_true_eq] at h
 exact h.1
theorem runG_few (l : List PatV) : (runG [] l).length ≤ l.length:=by
 have h : ∀ (l L : List PatV),(runG L l).length ≤ L.length + l.length:=by
  intro l
  induction l with
  | nil => intro L; simp [runG]
  | cons p l ih =>
   intro L
   have h1:=ih (grL L p)
   have h2 : (grL L p).length ≤ L.length + 1:=by
    unfold grL
    split <;> simp
   show (runG (grL L p) l).length ≤ _
   rw [List.length_cons]
   omega
 have:=h l []
 simpa using this
theorem filesL_few {L : List PatV} (hG : GrOk L) (hf : L.length ≤ 400) : (filesL L).length ≤ 80000:=by
 unfold filesL
 rw [List.length_map]
 exact Nat.le_trans (List.length_filter_le _ _) (vertsL_few hG hf)
end Go.Proofs.YtdafiipedlglpaaGreat
