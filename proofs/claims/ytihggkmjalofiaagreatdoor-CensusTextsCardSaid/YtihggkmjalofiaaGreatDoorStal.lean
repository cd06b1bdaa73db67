/- census.By: walked. -/
import Derived.Test.YtihggkmjalofiaaGreatDoorStah
import Derived.Shelf.SlSortCmp.NoneTotal
namespace Go.Proofs.YtihggkmjalofiaaGreatDoor
open Go.RowKit Go.Sort Go.Lib Go.Shelf

theorem rowSl : SlT Tryz.prog 104 107 9 72 := slT_of Tryz.underlying104 (z := .agg (encR zeroR).toArray) (by kernel_rfl) rfl (by omega)
theorem encsR_one (l : List RowR) : ∀ u ∈ l.flatMap encR, u.oneCell' = true := encs_one encR_one l
set_option maxRecDepth 100000 in
set_option maxHeartbeats 1000000 in
theorem cloneR_any (R : List RowR) (w : World) (A : Option Addr) (n c : Nat) (hn : R.length = n) (hm : n ≤ 1000) (h : Sl w w.heap.size 9 A n (R.flatMap encR)) :
  Calls Tryz.prog 133 #[.slice A n c] w (OwnedRet w 107 9 n (R.flatMap encR)) := by
 have HE : ∀ u : World, (binOp .eql 104 (.slice A n c) (.slice none 0 0)).run Tryz.prog u = .ok (.bool A.isNone) u := fun u => Lib.run_eql_slice_nil u _ _ A n c 0 0 Tryz.underlying104
 have HS := Lib.hid h
 have HL := Lib.hid hn
 clear h hn
 cases A with
 | none =>
  have hn0 : n = 0 := by
   rcases Nat.eq_zero_or_pos n with h0 | h0
   ·exact h0
   ·obtain ⟨b, o, e, _⟩ := HS.out.2 h0; cases e
  subst hn0
  have hl : Hid (R = []) := List.length_eq_zero_iff.1 HL.out
  have HE' : ∀ u : World, (binOp .eql 104 (.slice none 0 c) (.slice none 0 0)).run Tryz.prog u = .ok (.bool true) u := HE
  clear HE
  go_enter Tryz.func133, Tryz.ntmps133
  go_wp2
  go_ret
  refine ⟨_, rfl, ?_, Below.refl _ _⟩
  rw [hl.out]
  exact World.ownsRow_nil _ _ _ _
 | some a =>
  have HE' : ∀ u : World, (binOp .eql 104 (.slice (some a) n c) (.slice none 0 0)).run Tryz.prog u = .ok (.bool false) u := HE
  clear HE
  have B0 : Hid (Below w.heap.size w (w.alloc (.cells #[] 107))) := below_new _ _
  have O0 : Hid ((w.alloc (.cells #[] 107)).ownsRow w.heap.size 107 9 (.slice (some ⟨w.heap.size, 0, none⟩) 0 0) 0 []) :=
   ⟨rfl, .inr ⟨w.heap.size, 0, #[], rfl, Nat.le_refl _, heap_alloc_new w _, Nat.le_refl _, by simp, rfl, rfl⟩⟩
  have S0 : Hid (Sl (w.alloc (.cells #[] 107)) w.heap.size 9 (some a) n (R.flatMap encR)) := HS.out.below B0.out (Nat.le_refl _)
  go_enter Tryz.func133, Tryz.ntmps133
  go_wp2_with (at_builtin; refine wpList_cat rowSl O0.out S0.out (encsR_one R) B0.out.size (by omega) (by unfold maxLen; omega) (by rfl) (by rfl) ?_)
  intro v' w' ho hb
  rw [Nat.zero_add, List.nil_append] at ho
  have O1 := Lib.hid ho
  have B1 := Lib.hid (B0.out.trans hb)
  clear ho hb
  obtain ⟨A2, c2, hv, _, _⟩ := Sl.of_own O1.out
  subst hv
  go_wp2
  go_ret
  exact ⟨_, rfl, O1.out, B1.out⟩
set_option maxRecDepth 100000 in
set_option maxHeartbeats 1000000 in
theorem stableNone_any (p : Option Addr) (c : Nat) (fv : Value) (w : World) : Calls Tryz.prog 217 #[.slice p 0 c, .int .i64 0, fv] w (Ret w (.tuple #[])) := by
 have HI := Lib.hid (fun u : World => AnyF.insertionSortCmpFunc_none Tryz.insRow p c fv u)
 go_enter Tryz.func217, Tryz.ntmps217
 go_wp2_with fail
 go_loopw [7, 8] (fun av bv wr => av = .int .i64 0 ∧ bv = .int .i64 20 ∧ wr = w) (fun _ _ _ => 0)
 case atStart => exact ⟨rfl, rfl, rfl⟩
 case round =>
  obtain ⟨rfl, rfl, rfl⟩ := hrel
  go_wp2_with fail
  refine (HI.out _).mono ?_
  rintro e w2 ⟨rfl, rfl⟩
  go_wp2_with fail
  go_loopw [6] (fun sv ws => sv = .int .i64 20 ∧ ws = w2) (fun _ _ => 0)
  case atStart => exact ⟨rfl, rfl⟩
  case round =>
   obtain ⟨rfl, rfl⟩ := hrel
   go_wp2_with fail
   go_end0
   exact ⟨rfl, rfl⟩
theorem sortStable_any (k : RowR → Int) (f : FuncId) (hf : ∀ args w, (callFunc f args).run Tryz.prog w = .ok (.enter f args) w) (hk : ∀ r w, Calls Tryz.prog f #[.agg (encR r).toArray] w (RetG w (.int .i64 (k r)))) (gw base n : Nat) (R : List RowR) (v : Value) (w : World) (hn : R.length = n) (hm : n ≤ 60) (h : w.ownsRow base 107 9 v n (R.flatMap encR)) (hc : w.cell? ⟨gw, 0, none⟩ = some (.func (.func f) #[] #[])) (hg : gw < w.heap.size) (hgb : gw < base) :
  Calls Tryz.prog 217 #[v, .int .i64 ((n : Nat) : Int), .func (.func 135) #[] #[.pointer (some ⟨gw, 0, none⟩)]] w fun e w' => e = .returned (.tuple #[]) ∧ Below base w w' ∧ w'.ownsRow base 107 9 v n ((sortKy k R).flatMap encR) := by
 rcases h.2 with ⟨rfl, hx⟩ | ⟨g, cap, cur, rfl, hgb2, hh, hnc, hrest⟩
 ·have hl : R = [] := List.length_eq_zero_iff.1 (by omega)
  subst hl
  subst hx
  refine (stableNone_any none 0 _ w).mono ?_
  rintro e w' ⟨rfl, rfl⟩
  exact ⟨rfl, Below.refl _ _, h⟩
 ·have eg : ∀ args w, (callFunc 135 args).run Tryz.prog w = .ok (.enter 135 args) w := enters_of Tryz.func135 (by kernel_rfl) rfl
  have hblk := (h.lt g rfl).2
  have hRs : R.toArray.size = n := by simp [hn]
  have HK : RowK encR 9 w g 0 R.toArray := ⟨encR_len, encR_one, own_holds encR_len h hn, hblk⟩
  have hcon := stable54_any k (fun x y => signV (k y) (k x)) (less_sign k) 135 #[.pointer (some ⟨gw, 0, none⟩)] g 0 cap n R.toArray R.toArray w w eg (cmpLaysR k f hf hk gw g 0 R.toArray.size w hc hg (by omega)) HK hRs hRs (SWK.start HK.hH) hm
  refine hcon.mono ?_
  rintro e w' ⟨rfl, d', hd', ⟨f1, s1⟩, m, os, rfl⟩
  have hs := sorted_sortKy f1 s1
  have e1 : d'.toList = sortKy k R := by
   have h1 := sgF_atA d'
   have h2 := sgF_atA R.toArray
   rw [hd'] at h1
   rw [hRs] at h2
   rw [← h1, hs, h2]
  have e2 : d' = (sortKy k R).toArray := by rw [← e1]
  subst e2
  obtain ⟨o1, o2⟩ := own_sorted encR_len h (sortKy k R) (by simpa using hd') m os
  exact ⟨rfl, o2, o1⟩

set_option maxRecDepth 100000 in
set_option maxHeartbeats 4000000 in
theorem by54_any (R : List RowR) (w : World) (A : Option Addr) (n c : Nat) (hn : R.length = n) (hm : n ≤ 60) (h : Sl w w.heap.size 9 A n (R.flatMap encR)) :
  Calls Tryz.prog 52 #[.slice A n c, .func (.func 53) #[] #[]] w (OwnedRet w 107 9 n ((sortKy linesR R).flatMap encR)) := by
 have H := Lib.hid h
 have HN := Lib.hid hn
 clear h hn
 have K3 : Hid (Blk (w.alloc (.cells #[.func (.func 53) #[] #[]] 108)) w.heap.size 108 #[.func (.func 53) #[] #[]]) := Blk.new _ _ _
 have B0 : Hid (Below w.heap.size w (w.alloc (.cells #[.func (.func 53) #[] #[]] 108))) := below_new _ _
 go_enter Tryz.func52, Tryz.ntmps52
 go_upto_region 1 with fail
 generalize (w.alloc (.cells #[.func (.func 53) #[] #[]] 108)) = w1 at *
 obtain ⟨g3, hg3⟩ : ∃ g, g = w.heap.size := ⟨_, rfl⟩
 rw [← hg3] at K3 ⊢
 have G3 := Lib.hid hg3
 clear hg3
 go_wp2_with fail
 refine (cloneR_any R w1 A n c HN.out (by omega) ((H.out.below B0.out (Nat.le_refl _)).more B0.out.size)).mono ?_
 rintro e w2 ⟨v, rfl, own, bb⟩
 have O := Lib.hid own
 have K32 := Lib.hid (K3.out.ext bb)
 have B2 := Lib.hid (B0.out.trans (bb.mono B0.out.size))
 have hgb : Hid (g3 < w1.heap.size) := K3.out.lt
 have hl2 := Lib.hid K32.out.lt
 clear own bb K3 B0
 obtain ⟨A2, c2, hv, hc2, -⟩ := Sl.of_own O.out
 subst hv
 have y0 : w2.cell? ⟨g3, 0, none⟩ = some (.func (.func 53) #[] #[]) := K32.out.cell 0
 have NE : ∀ u : World, (binOp .neq 108 (.func (.func 53) #[] #[]) .nilFunc).run Tryz.prog u = .ok (.bool true) u := fun u => by kernel_rfl
 have HC := Lib.hid (sortStable_any linesR 53 (enters_of Tryz.func53 (by kernel_rfl) rfl) lines_any g3 w1.heap.size n R (.slice A2 n c2) w2 HN.out hm O.out y0 hl2.out hgb.out)
 go_upto_region 3 with fail
 clear NE
 go_wp2_with fail
 go_enter Tryz.func134, Tryz.ntmps134
 go_wp2_with fail
 refine HC.out.mono ?_
 rintro e w3 ⟨rfl, b3, o3⟩
 have B3 := Lib.hid (B2.out.trans (b3.mono (by have := B2.out.size; have := hgb.out; have := G3.out; omega)))
 have O3 := Lib.hid (own_mono' o3 (by have := hgb.out; have := G3.out; omega : w.heap.size ≤ w1.heap.size))
 clear b3 o3 HC O y0
 go_wp2_with fail
 go_ret
 exact ⟨_, rfl, O3.out, B3.out⟩
set_option maxRecDepth 100000 in
set_option maxHeartbeats 4000000 in
theorem byNil_any (R : List RowR) (w : World) (A : Option Addr) (n c : Nat) (hn : R.length = n) (hm : n ≤ 60) (h : Sl w w.heap.size 9 A n (R.flatMap encR)) :
  Calls Tryz.prog 52 #[.slice A n c, .nilFunc] w (OwnedRet w 107 9 n (R.flatMap encR)) := by
 have H := Lib.hid h
 have HN := Lib.hid hn
 clear h hn
 have K3 : Hid (Blk (w.alloc (.cells #[.nilFunc] 108)) w.heap.size 108 #[.nilFunc]) := Blk.new _ _ _
 have B0 : Hid (Below w.heap.size w (w.alloc (.cells #[.nilFunc] 108))) := below_new _ _
 go_enter Tryz.func52, Tryz.ntmps52
 go_upto_region 1 with fail
 generalize (w.alloc (.cells #[.nilFunc] 108)) = w1 at *
 obtain ⟨g3, hg3⟩ : ∃ g, g = w.heap.size := ⟨_, rfl⟩
 rw [← hg3] at K3 ⊢
 have G3 := Lib.hid hg3
 clear hg3
 go_wp2_with fail
 refine (cloneR_any R w1 A n c HN.out (by omega) ((H.out.below B0.out (Nat.le_refl _)).more B0.out.size)).mono ?_
 rintro e w2 ⟨v, rfl, own, bb⟩
 have O := Lib.hid (own_mono' own B0.out.size)
 have K32 := Lib.hid (K3.out.ext bb)
 have B2 := Lib.hid (B0.out.trans (bb.mono B0.out.size))
 clear own bb K3 B0
 obtain ⟨A2, c2, hv, hc2, -⟩ := Sl.of_own O.out
 subst hv
 have y0 : w2.cell? ⟨g3, 0, none⟩ = some .nilFunc := K32.out.cell 0
 have NE : ∀ u : World, (binOp .neq 108 .nilFunc .nilFunc).run Tryz.prog u = .ok (.bool false) u := fun u => by kernel_rfl
 go_upto_region 4 with fail
 clear NE
 go_wp2_with fail
 go_ret
 exact ⟨_, rfl, O.out, B2.out⟩
end Go.Proofs.YtihggkmjalofiaaGreatDoor
