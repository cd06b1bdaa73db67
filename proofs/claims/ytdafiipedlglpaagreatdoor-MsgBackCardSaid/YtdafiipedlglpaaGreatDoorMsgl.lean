/- Patches are read: walked. -/
import Derived.Test.YtdafiipedlglpaaGreatDoorMsgk
import Derived.Test.YtdafiipedlglpaaGreatDoorFara
import Derived.Lib.ConvBytes
namespace Go.Proofs.YtdafiipedlglpaaGreatDoor
open Go.RowKit

theorem wpList_convW {P : Program} {ops : Array Oper} {rest : List Oper} {a : Act} {w w' : World} {Q : Exit → Act → World → Prop} {d : Option Tmp} {ty s t : TypeId} {pos : String} {after : Array Edge} {x : Operand} {xv v : Value} (hx : a.eval x = xv) (hr : (convert s t xv).run P w = .ok v w')
    (h : wpList P ops Q rest (a.put d v) w') : wpList P ops Q (⟨d, .convert s t x, ty, pos, after, none⟩ :: rest) a w :=
  wpList_plain rfl fun _ hK => by
    unfold Oper.wp execOp
    simp only [hx, Sem.run_bind, hr, Result.andThen_ok, Sem.run_pure]
    exact hK _ _ h
theorem conv_bytes (w : World) (s : ByteArray) : (convert 9 35 (.string s)).run Tryz.prog w = .ok (.slice (some ⟨w.heap.size, 0, none⟩) s.size (grownCap w s.size 0 5)) (Lib.bytesWorld w 5 s) :=
  Lib.run_convert_string_bytes w 9 35 5 s (u := .string) (by kernel_rfl) (by kernel_rfl) (by kernel_rfl)
theorem conv_below (w : World) (s : ByteArray) : Below w.heap.size w (Lib.bytesWorld w 5 s) :=
  ⟨rfl, rfl, rfl, by rw [Lib.bytesWorld_size]; omega, fun k hk => Lib.bytesWorld_at_old w _ s k hk⟩
theorem conv_at (w : World) (t : List UInt8) (ht : t.length ≤ 100000) : BytesAt (Lib.bytesWorld w 5 (bytesOf t)) (some ⟨w.heap.size, 0, none⟩) t.length (grownCap w t.length 0 5) t := by
  have hs : (bytesOf t).size = t.length := by show (bytesOf t).data.size = _; simp [bytesOf]
  refine ⟨rfl, grownCap_ge w _ _ _, grownCap_le_maxLen w _ _ _ (by unfold maxLen; omega), ?_, fun _ => ⟨w.heap.size, 0, rfl, by rw [Lib.bytesWorld_size]; omega, fun j hj => ?_⟩⟩
  · simp [encB_len]
  · rw [Nat.mul_one] at hj
    rw [Nat.zero_add, Lib.bytesWorld_cell w _ _ j (by rw [hs]; exact hj), encB_at, List.getElem?_eq_getElem hj]
    have e : (bytesOf t).data.toList = t := by simp [bytesOf]
    rw [e, List.getD_eq_getElem?_getD, List.getElem?_eq_getElem hj]
    rfl
theorem PatIn.lt {w : World} {G : Nat → Prop} {r : List Value} {p : PatV} (h : PatIn w G r p) : PatIn w (fun k => G k ∧ k < w.heap.size) r p := by
  obtain ⟨⟨A, c, A', c', e, h1, h2, i1, i2⟩, h3, h4⟩ := h
  refine ⟨⟨A, c, A', c', e, h1, h2, ?_, ?_⟩, h3, h4⟩
  · intro hn b o ea
    obtain ⟨b', o', e', hb, _⟩ := h1.sl.2 hn
    rw [ea] at e'; injection e' with e'; injection e' with e1 _
    exact ⟨i1 hn b o ea, by rw [e1]; exact hb⟩
  · intro hn b o ea
    obtain ⟨b', o', e', hb, _⟩ := h2.sl.2 hn
    rw [ea] at e'; injection e' with e'; injection e' with e1 _
    exact ⟨i2 hn b o ea, by rw [e1]; exact hb⟩
theorem patsRd_stop {n e : Nat} {l : List UInt8} (h : n = 0 ∨ e ≠ 0) : patsRd n l e = ([], l, e) := by
  cases n with
  | zero => rfl
  | succ n =>
    unfold patsRd
    rw [if_pos (h.elim (fun h => by omega) id)]
theorem patsRd_go {n : Nat} {l : List UInt8} : patsRd (n + 1) l 0 = ((patRd l 0).1 :: (patsRd n (patRd l 0).2.1 (patRd l 0).2.2).1, (patsRd n (patRd l 0).2.1 (patRd l 0).2.2).2) := rfl
def psRd : Rd (List PatV) := bindR (rNum 8) patsRd
def PatsRet (w : World) (B g : Nat) (r : List PatV × List UInt8 × Nat) (en : Ending) (w' : World) : Prop :=
  ∃ (A : Option Addr) (m c err : Nat), en = .returned (.tuple #[.slice A m c, .int .i64 ((err : Nat) : Int)]) ∧ Kept (fun k => k = g) w w' ∧ (err ≠ 0 → r.2.2 = err) ∧ (err = 0 → RdAt w' B g r.2.1 r.2.2 ∧ (r.2.2 = 0 → m = r.1.length ∧ OwnC w.heap.size w' (.slice A m c) r.1 ∧ r.1.length ≤ 8))
set_option maxRecDepth 100000 in
set_option maxHeartbeats 8000000 in
theorem patches_any {w : World} {B g e0 : Nat} {l : List UInt8} (h : RdAt w B g l e0) : Calls Tryz.prog 89 #[.pointer (some ⟨g, 0, none⟩)] w (PatsRet w B g (psRd l e0)) := by
  have hg : g < w.heap.size := by obtain ⟨_, _, h1, _⟩ := h.ex; exact h1.lt
  have hBg := h.ge
  have H := Lib.hid h
  clear h
  go_enter Tryz.func89, Tryz.ntmps89
  go_wp2_with fail
  refine (rdNum_any H.out 8).mono ?_
  rintro e w3 ⟨rfl, kp, R⟩
  have hnl := rNum_le 8 l e0
  obtain ⟨n0, l1, e1, hB1⟩ : ∃ x y z, rNum 8 l e0 = (x, y, z) := ⟨_, _, _, rfl⟩
  have hrd : Hid (psRd l e0 = patsRd n0 l1 e1) := by
    rw [Hid]
    unfold psRd bindR
    rw [hB1]
  rw [hB1] at hnl R ⊢
  dsimp only at hnl R ⊢
  clear hB1
  have R3 := Lib.hid R
  have KW3 : Hid (Kept (fun k => k = g) w w3) := kp
  clear kp R H
  go_wp2_with fail
  go_loopw [4, 5] (fun ov nv wr => ∃ (n : Nat) (ps : List PatV) (l' : List UInt8) (e' : Nat), nv = .int .u64 ((n : Nat) : Int) ∧ n + ps.length ≤ 8 ∧ Hid (patsRd n0 l1 e1 = (ps ++ (patsRd n l' e').1, (patsRd n l' e').2)) ∧ Hid (OwnC w.heap.size wr ov ps) ∧ Hid (RdAt wr B g l' e') ∧ Hid (Kept (fun k => k = g) w wr)) (fun _ nv _ => (intOf nv).toNat)
  case atStart => exact ⟨n0, [], l1, e1, rfl, by simpa using hnl, rfl, OwnC.nil _ _, R3.out, KW3.out⟩
  case round =>
    clear R3 KW3
    obtain ⟨n, ps, l', e', rfl, hn, HD, O, RD, KW⟩ := hrel
    have hn0 : (0 : Int) ≤ (n : Int) := by omega
    have HE := Lib.hid (rdErr_any RD.out)
    obtain ⟨A5, c5, rfl, _⟩ := O.out.slice
    by_cases hgo : 0 < n ∧ e' = 0
    · obtain ⟨hnp, he⟩ := hgo
      have hmi : (0 : Int) < (n : Int) := by omega
      have hm1 : (1 : Int) ≤ (n : Int) := by omega
      have hmb : (n : Int) ≤ 8 := by omega
      have hz : ((e' : Int) == 0) = true := by rw [he]; rfl
      obtain ⟨m, rfl⟩ : ∃ m, n = m + 1 := ⟨n - 1, by omega⟩
      have hm2 : ((m + 1 : Nat) : Int) - 1 = (m : Int) := by omega
      have hpr : Hid (patRd l' e' = if (rText 65536 l' e').2.2 ≠ 0 then (zeroPat, (rText 65536 l' e').2.1, (rText 65536 l' e').2.2) else ((decP (rText 65536 l' e').1).1, (rText 65536 l' e').2.1, (decP (rText 65536 l' e').1).2)) := rfl
      have HDS : Hid (patsRd n0 l1 e1 = ((ps ++ [(patRd l' e').1]) ++ (patsRd m (patRd l' e').2.1 (patRd l' e').2.2).1, (patsRd m (patRd l' e').2.1 (patRd l' e').2.2).2)) := by
        rw [Hid, HD.out]
        subst he
        rw [patsRd_go, List.append_assoc]
        rfl
      have htl := rText_len 65536 l' e'
      have HT := Lib.hid (rdText_any RD.out 65536 (by omega))
      clear HD he
      go_wp2_with fail
      refine HE.out.mono ?_
      rintro e _ ⟨rfl, rfl⟩
      go_wp2_with fail
      refine HT.out.mono ?_
      rintro e w4 ⟨rfl, kp, R⟩
      obtain ⟨t, l2, e2, hB1⟩ : ∃ x y z, rText 65536 l' e' = (x, y, z) := ⟨_, _, _, rfl⟩
      rw [hB1] at htl R hpr ⊢
      dsimp only at htl R hpr ⊢
      clear hB1 HT HE
      have R4 := Lib.hid R
      have KW4 : Hid (Kept (fun k => k = g) w w4) := KW.out.trans kp fun _ e => .inl e
      have O4 := Lib.hid (O.out.stay (kp.stay fun k _ h1 h2 => by have h1 : w.heap.size ≤ k := h1; have h2 : k = g := h2; omega))
      clear kp R RD KW O
      have HE4 := Lib.hid (rdErr_any R4.out)
      go_wp2_with fail
      refine HE4.out.mono ?_
      rintro e _ ⟨rfl, rfl⟩
      clear HE4
      rcases Nat.eq_zero_or_pos e2 with h2 | h2
      · have z2 : ((e2 : Int) != 0) = false := by rw [h2]; rfl
        rw [if_neg (by simpa using h2)] at hpr
        rw [hpr.out] at HDS
        clear hpr
        have CB := Lib.hid (conv_bytes w4 (bytesOf t))
        have hts : (bytesOf t).size = t.length := by show (bytesOf t).data.size = _; simp [bytesOf]
        rw [hts] at CB
        have BA := Lib.hid (conv_at w4 t (by omega))
        have bn := Lib.hid (conv_below w4 (bytesOf t))
        have R5 := Lib.hid (R4.out.ext bn.out)
        have KW5 : Hid (Kept (fun k => k = g) w (Lib.bytesWorld w4 5 (bytesOf t))) := KW4.out.then bn.out
        have O5 := Lib.hid (O4.out.ext bn.out)
        clear bn R4 KW4 O4 hts
        generalize (Lib.bytesWorld w4 5 (bytesOf t)) = w5 at *
        generalize grownCap w4 t.length 0 5 = c0 at *
        generalize w4.heap.size = gt at *
        have HDC := Lib.hid (decode19_far t w5 _ _ _ BA.out)
        go_wp2_with (refine wpList_convW rfl CB.out ?_)
        refine HDC.out.mono ?_
        rintro e w6 ⟨cs, rfl, pa, b6⟩
        have pa2 := pa.lt
        obtain ⟨⟨A3, c3, A4, c4, rfl, _⟩, _, _⟩ := pa
        obtain ⟨q, er, hq⟩ : ∃ q er, decP t = (q, er) := ⟨_, _, rfl⟩
        rw [hq] at pa2 HDS ⊢
        dsimp only at pa2 HDS ⊢
        have hw5 : Hid (w.heap.size ≤ w5.heap.size) := KW5.out.size
        have hsl : Hid (∀ k, (Value.slice A5 ps.length c5).ownBlock = some k → k < w5.heap.size) := by
          obtain ⟨rows5, D5, own5, _⟩ := O5.out
          exact fun k e => (own5.lt k e).2
        have R6 := Lib.hid (R5.out.ext b6)
        have KW6 : Hid (Kept (fun k => k = g) w w6) := KW5.out.then b6
        have O6 := Lib.hid (O5.out.ext b6)
        have PA := Lib.hid pa2
        have hcs := Lib.hid pa2.len4
        clear pa2 b6 R5 KW5 O5 HDC CB BA hq
        have KZ : Hid (Blk (w6.alloc (.cells #[.int .u8 0, .int .u16 0, .slice none 0 0, .slice none 0 0] 64)) w6.heap.size 64 #[.int .u8 0, .int .u16 0, .slice none 0 0, .slice none 0 0]) := Blk.new _ _ _
        obtain ⟨CS, hCS⟩ : ∃ CS, CS = patC q.1 A3 q.2.1.length c3 A4 q.2.2.length c4 := ⟨_, rfl⟩
        rw [← hCS] at PA hcs ⊢
        have HI : Hid ((Tryz.prog.info? 64).map (·.size) = some CS.toArray.size) := by rw [Hid, hCS]; exact infoPat
        have HO : Hid (CS.toArray.all (·.oneCell') = true) := by rw [Hid, hCS]; exact patC_one
        have KQ : Hid (Blk ((w6.alloc (.cells #[.int .u8 0, .int .u16 0, .slice none 0 0, .slice none 0 0] 64)).setRow w6.heap.size CS.toArray) w6.heap.size 64 CS.toArray) := KZ.out.row _
        have BN : Hid (Below w6.heap.size w6 ((w6.alloc (.cells #[.int .u8 0, .int .u16 0, .slice none 0 0, .slice none 0 0] 64)).setRow w6.heap.size CS.toArray)) := below_setRow (below_new w6 _) (Nat.le_refl _) _
        clear hCS
        go_upto_region 8 with (first
          | (refine wpList_alloced (allocPat _) ?_)
          | (refine wpList_store_row rfl 64 _ _ (by rfl) w6.heap.size CS.toArray (by rfl) (by rfl) _ _ KZ.out HI.out (by simp only [List.size_toArray, hcs.out]; rfl) HO.out ?_))
        generalize ((w6.alloc (.cells #[.int .u8 0, .int .u16 0, .slice none 0 0, .slice none 0 0] 64)).setRow w6.heap.size CS.toArray) = w7 at *
        have R7 := Lib.hid (R6.out.ext BN.out)
        have KW7 : Hid (Kept (fun k => k = g) w w7) := KW6.out.then BN.out
        have O7 := Lib.hid (O6.out.ext BN.out)
        have PN : Hid (PatIn w7 (fun k => w5.heap.size ≤ k ∧ k < w7.heap.size) CS q) := (PA.out.ext BN.out).mono fun k h => ⟨h.1, Nat.lt_of_lt_of_le h.2 BN.out.size⟩
        have hOB : Hid (w.heap.size ≤ w7.heap.size) := KW7.out.size
        clear BN KZ PA R6 KW6 O6
        generalize w6.heap.size = gq at *
        rcases Nat.eq_zero_or_pos er with he | he
        · have zer : ((er : Int) != 0) = false := by rw [he]; rfl
          replace he := Lib.hid he
          obtain ⟨rows, D, own, ri, hdd⟩ := O7.out
          have own := Lib.hid own
          have RI := Lib.hid ri
          have HDD := Lib.hid hdd
          clear O7 ri hdd
          go_wp2_with (first
            | (refine wpList_load_row rfl 64 _ (by rfl) gq (by rfl) _ _ _ _ KQ.out underPat rfl HI.out ?_)
            | (refine wpList_lit1 patSl hcs.out (by omega) (by rfl) ?_)
            | (at_builtin; refine wpList_pushF patSl own.out CS hcs.out PN.out.one hOB.out (by omega) (by unfold maxLen; omega) (by rfl) (by rfl) (by rfl) ?_; intro v8 w8 own8 kep8 new8))
          have O8 := Lib.hid (OwnC.push own8 kep8 new8 RI.out HDD.out PN.out hw5.out hsl.out)
          have b8 := kep8.below (B := w.heap.size) (fun k e => (own.out.lt k e).1) hOB.out
          have R8 := Lib.hid (R7.out.below b8 hg)
          have KW8 : Hid (Kept (fun k => k = g) w w8) := KW7.out.trans kep8 fun x e => .inr (own.out.lt x e).1
          clear own8 kep8 new8 b8 own RI HDD
          go_roundw
          case rel => exact ⟨m, ps ++ [q], l2, er, by go_num, by rw [List.length_append]; show m + (ps.length + 1) ≤ 8; omega, HDS.out, O8.out, by rw [he.out]; rw [h2] at R8; exact R8.out, KW8.out⟩
          case measure => simp [intOf]
        · have zer : ((er : Int) != 0) = true := by rw [bne_iff_ne]; omega
          have hs2 : patsRd m l2 er = ([], l2, er) := patsRd_stop (.inr (by omega))
          rw [hs2] at HDS
          have HF : Hid (psRd l e0 = (ps ++ [q] ++ [], l2, er)) := by rw [Hid, hrd.out]; exact HDS.out
          replace he : Hid (er ≠ 0) := by rw [Hid]; omega
          clear hs2 HDS
          go_wp2
          refine bodyPost_ret (v := .tuple #[.slice none 0 0, .int .i64 (er : Int)]) ?_ rfl ?_
          · simp [results, Tryz.results89, go_sem]
          · rw [HF.out]
            exact ⟨_, _, _, er, rfl, KW7.out, fun _ => rfl, fun h => absurd h he.out⟩
      · have z2 : ((e2 : Int) != 0) = true := by rw [bne_iff_ne]; omega
        rw [if_pos (by omega)] at hpr
        have hs2 : patsRd m l2 e2 = ([], l2, e2) := patsRd_stop (.inr (by omega))
        rw [hpr.out] at HDS
        dsimp only at HDS
        rw [hs2] at HDS
        clear hs2
        have HF : Hid (psRd l e0 = (ps ++ [zeroPat] ++ [], l2, e2)) := by rw [Hid, hrd.out]; exact HDS.out
        replace h2 : Hid (e2 ≠ 0) := by rw [Hid]; omega
        clear hpr HDS
        go_wp2
        refine bodyPost_ret (v := .tuple #[.slice A5 ps.length c5, .int .i64 0]) ?_ rfl ?_
        · simp [results, Tryz.results89, go_sem]
        · rw [HF.out]
          exact ⟨_, _, _, 0, rfl, KW4.out, fun h => absurd rfl h, fun _ => ⟨R4.out, fun h => absurd h h2.out⟩⟩
    · have hps : patsRd n l' e' = ([], l', e') := patsRd_stop (by omega)
      have HF : Hid (psRd l e0 = (ps, l', e')) := by rw [Hid, hrd.out, HD.out, hps, List.append_nil]
      clear hps HD
      by_cases hmz : n = 0
      · have hmi : ¬ (0 : Int) < (n : Int) := by omega
        clear hgo
        go_wp2
        refine bodyPost_ret (v := .tuple #[.slice A5 ps.length c5, .int .i64 0]) ?_ rfl ?_
        · simp [results, Tryz.results89, go_sem]
        · rw [HF.out]
          exact ⟨_, _, _, 0, rfl, KW.out, fun h => absurd rfl h, fun _ => ⟨RD.out, fun _ => ⟨rfl, O.out, by show ps.length ≤ 8; omega⟩⟩⟩
      · have hmi : (0 : Int) < (n : Int) := by omega
        have hz : ((e' : Int) == 0) = false := by rw [beq_eq_false_iff_ne]; omega
        clear hgo hmz
        go_wp2_with fail
        refine HE.out.mono ?_
        rintro e _ ⟨rfl, rfl⟩
        go_wp2
        refine bodyPost_ret (v := .tuple #[.slice A5 ps.length c5, .int .i64 0]) ?_ rfl ?_
        · simp [results, Tryz.results89, go_sem]
        · rw [HF.out]
          exact ⟨_, _, _, 0, rfl, KW.out, fun h => absurd rfl h, fun _ => ⟨RD.out, fun _ => ⟨rfl, O.out, by show ps.length ≤ 8; omega⟩⟩⟩
end Go.Proofs.YtdafiipedlglpaaGreatDoor
