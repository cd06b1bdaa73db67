/- What the document decodes lies in new blocks: walked. -/
import Derived.Test.YtdafiipedlglpaaGreatDoorFara
import Derived.Test.YtdafiipedlglpaaGreatDoorRph
namespace Go.Proofs.YtdafiipedlglpaaGreatDoor
open Go.RowKit

set_option maxRecDepth 100000 in
set_option maxHeartbeats 8000000 in
theorem rdecode19_far (l : List UInt8) (w : World) (A : Option Addr) (n c : Nat) (h : BytesAt w A n c l) : Calls Tryz.prog 95 #[.slice A n c] w (MadeFar w (decP l).1 ((decP l).2 : Int)) := by
  have KR0 : Hid (Blk (w.alloc (.cells #[.int .u8 0, .int .u16 0, .slice none 0 0, .slice none 0 0] 64)) w.heap.size 64 #[.int .u8 0, .int .u16 0, .slice none 0 0, .slice none 0 0]) := Blk.new _ _ _
  have B0 : Hid (Below w.heap.size w (w.alloc (.cells #[.int .u8 0, .int .u16 0, .slice none 0 0, .slice none 0 0] 64))) := below_new _ _
  obtain ⟨h1, h2, h3, h4⟩ := h.ext B0.out
  subst h1
  have HS := Lib.hid h4
  have hlc := Lib.hid h2
  have hcm := Lib.hid h3
  clear h h4 h2 h3
  go_enter Tryz.func95, Tryz.ntmps95
  go_upto_region 1 with (refine wpList_alloced (allocPat _) ?_)
  generalize (w.alloc (.cells #[.int .u8 0, .int .u16 0, .slice none 0 0, .slice none 0 0] 64)) = w2 at *
  obtain ⟨gr, hgr⟩ : ∃ gr, gr = w.heap.size := ⟨_, rfl⟩
  rw [← hgr] at KR0 ⊢
  replace hgr := Lib.hid hgr
  have KG : Hid (Blk (w2.alloc (.cells #[.slice A l.length c, .int .i64 0] 146)) w2.heap.size 146 #[.slice A l.length c, .int .i64 0]) := Blk.new _ _ _
  have BG : Hid (Below w2.heap.size w2 (w2.alloc (.cells #[.slice A l.length c, .int .i64 0] 146))) := below_new _ _
  have R3 : Hid (RrAt (w2.alloc (.cells #[.slice A l.length c, .int .i64 0] 146)) w2.heap.size w2.heap.size l 0) := ⟨Nat.le_refl _, A, c, KG.out, hlc.out, hcm.out, HS.out.below BG.out (Nat.le_refl _)⟩
  have KR3 := Lib.hid (KR0.out.ext BG.out)
  have B3 := Lib.hid (B0.out.trans (BG.out.mono B0.out.size))
  have hrg : Hid (gr < w2.heap.size) := KR0.out.lt
  have hwg : Hid (w.heap.size ≤ w2.heap.size) := B0.out.size
  go_upto_region 2 with (refine wpList_built (buildRd _ _ _ _) (by rfl) ?_)
  clear KG BG HS hlc hcm KR0 B0
  have hw3 : (w2.alloc (.cells #[.slice A l.length c, .int .i64 0] 146)).heap.size = w2.heap.size + 1 := by simp
  generalize (w2.alloc (.cells #[.slice A l.length c, .int .i64 0] 146)) = w3 at *
  obtain ⟨g, hg⟩ : ∃ g, g = w2.heap.size := ⟨_, rfl⟩
  rw [← hg] at R3 hrg hwg hw3 ⊢
  clear hg
  have KP4 : Hid (Blk (w3.alloc (.cells #[.int .u8 0, .int .u16 0, .slice none 0 0, .slice none 0 0] 64)) w3.heap.size 64 #[.int .u8 0, .int .u16 0, .slice none 0 0, .slice none 0 0]) := Blk.new _ _ _
  have BP : Hid (Below w3.heap.size w3 (w3.alloc (.cells #[.int .u8 0, .int .u16 0, .slice none 0 0, .slice none 0 0] 64))) := below_new _ _
  have R4 := Lib.hid (R3.out.ext BP.out)
  have KR4 := Lib.hid (KR3.out.ext BP.out)
  have B4 := Lib.hid (B3.out.trans (BP.out.mono B3.out.size))
  go_upto_region 3 with fail
  clear BP R3 KR3 B3
  generalize (w3.alloc (.cells #[.int .u8 0, .int .u16 0, .slice none 0 0, .slice none 0 0] 64)) = w4 at *
  rw [hw3] at KP4
  obtain ⟨gp, hgp⟩ : ∃ gp, gp = g + 1 := ⟨_, rfl⟩
  rw [← hgp] at KP4 ⊢
  have hgs0 : Hid (w.heap.size = gr ∧ gr < g ∧ g < gp) := ⟨hgr.out.symm, hrg.out, by omega⟩
  clear hw3 hrg hwg hgr hgp
  obtain ⟨B, hB⟩ : ∃ B, B = g := ⟨_, rfl⟩
  have R4 : Hid (RrAt w4 B g l 0) := by rw [hB]; exact R4.out
  replace hB := Lib.hid hB
  go_wp2_with fail
  refine (rrByte_any R4.out 255).mono ?_
  rintro e w5 ⟨rfl, kp, R⟩
  have hal := rByte_le 255 l 0
  have hdec : Hid (headR2 l 0 = bindR (rNum 65535) (fun s => bindR (rNum 200) fun n => bindR (opsRd n) fun os => pureR (idR (rByte 255 l 0).1 s, os)) (rByte 255 l 0).2.1 (rByte 255 l 0).2.2) := rfl
  obtain ⟨a, l1, e1, hB1⟩ : ∃ x y z, rByte 255 l 0 = (x, y, z) := ⟨_, _, _, rfl⟩
  rw [hB1] at hal R hdec ⊢
  dsimp only at hal R hdec ⊢
  clear hB1
  have KP5 := Lib.hid (KP4.out.keep (kp.block gp KP4.out.lt (by have := hgs0.out; omega)))
  have KR5 := Lib.hid (KR4.out.keep (kp.block gr KR4.out.lt (by have := hgs0.out; omega)))
  have B5 : Hid (Below w.heap.size w w5) := B4.out.trans (kp.below (fun k e => by rw [e]; have := hgs0.out; omega) B4.out.size)
  have R5 := Lib.hid R
  clear kp R R4 KP4 KR4 B4
  have y0 : w5.cell? ⟨gp, 0, none⟩ = some (.int .u8 0) := KP5.out.cell 0
  have f0 : w5.frozen? ⟨gp, 0, none⟩ = false := KP5.out.fr 0
  go_upto_region 4 with fail
  have kp2 : Kept (fun k => k = gp) w5 (w5.setCell ⟨gp, 0, none⟩ (.int .u8 (a : Int))) := (Kept.refl (fun k => k = gp) w5).setCell (p := ⟨gp, 0, none⟩) (.inl rfl) _
  have KP6 : Hid (Blk (w5.setCell ⟨gp, 0, none⟩ (.int .u8 (a : Int))) gp 64 #[.int .u8 (a : Int), .int .u16 0, .slice none 0 0, .slice none 0 0]) := KP5.out.set_ 0 (.int .u8 (a : Int))
  have KR6 := Lib.hid (KR5.out.keep (kp2.block gr KR5.out.lt (by have := hgs0.out; omega)))
  have R6 := Lib.hid (R5.out.keepB kp2 (by have := hgs0.out; omega) (by have := hgs0.out; have := R5.out.ge; omega))
  have B6 : Hid (Below w.heap.size w (w5.setCell ⟨gp, 0, none⟩ (.int .u8 (a : Int)))) := B5.out.trans (kp2.below (fun k e => by rw [e]; have := hgs0.out; omega) B5.out.size)
  clear kp2 y0 f0 KP5 KR5 R5 B5
  generalize (w5.setCell ⟨gp, 0, none⟩ (.int .u8 (a : Int))) = w6 at *
  go_wp2_with fail
  refine (rrNum_any R6.out 65535).mono ?_
  rintro e w7 ⟨rfl, kp, R⟩
  have hsl := rNum_le 65535 l1 e1
  obtain ⟨s, l2, e2, hB2⟩ : ∃ x y z, rNum 65535 l1 e1 = (x, y, z) := ⟨_, _, _, rfl⟩
  have hdec2 : Hid (headR2 l 0 = bindR (rNum 200) (fun n => bindR (opsRd n) fun os => pureR (idR a s, os)) l2 e2) := by
    rw [Hid, hdec.out]
    unfold bindR
    rw [hB2]
  rw [hB2] at hsl R ⊢
  dsimp only at hsl R ⊢
  clear hB2 hdec
  have KP7 := Lib.hid (KP6.out.keep (kp.block gp KP6.out.lt (by have := hgs0.out; omega)))
  have KR7 := Lib.hid (KR6.out.keep (kp.block gr KR6.out.lt (by have := hgs0.out; omega)))
  have B7 : Hid (Below w.heap.size w w7) := B6.out.trans (kp.below (fun k e => by rw [e]; have := hgs0.out; omega) B6.out.size)
  have R7 := Lib.hid R
  clear kp R R6 KP6 KR6 B6
  have y1 : w7.cell? ⟨gp, 1, none⟩ = some (.int .u16 0) := KP7.out.cell 1
  have f1 : w7.frozen? ⟨gp, 1, none⟩ = false := KP7.out.fr 1
  have CV := Lib.hid (fun u => low16_run hsl u)
  go_upto_region 5 with (refine wpList_convB rfl (CV.out _) ?_)
  have kp2 : Kept (fun k => k = gp) w7 (w7.setCell ⟨gp, 1, none⟩ (.int .u16 (s : Int))) := (Kept.refl (fun k => k = gp) w7).setCell (p := ⟨gp, 1, none⟩) (.inl rfl) _
  have KP8 : Hid (Blk (w7.setCell ⟨gp, 1, none⟩ (.int .u16 (s : Int))) gp 64 #[.int .u8 (a : Int), .int .u16 (s : Int), .slice none 0 0, .slice none 0 0]) := KP7.out.set_ 1 (.int .u16 (s : Int))
  have KR8 := Lib.hid (KR7.out.keep (kp2.block gr KR7.out.lt (by have := hgs0.out; omega)))
  have R8 := Lib.hid (R7.out.keepB kp2 (by have := hgs0.out; omega) (by have := hgs0.out; have := R7.out.ge; omega))
  have B8 : Hid (Below w.heap.size w (w7.setCell ⟨gp, 1, none⟩ (.int .u16 (s : Int)))) := B7.out.trans (kp2.below (fun k e => by rw [e]; have := hgs0.out; omega) B7.out.size)
  clear kp2 y1 f1 KP7 KR7 R7 B7 CV
  generalize (w7.setCell ⟨gp, 1, none⟩ (.int .u16 (s : Int))) = w8 at *
  go_wp2_with fail
  refine (rrNum_any R8.out 200).mono ?_
  rintro e w12 ⟨rfl, kp, R⟩
  have hnl := rNum_le 200 l2 e2
  obtain ⟨m0, l3, e3, hB3⟩ : ∃ x y z, rNum 200 l2 e2 = (x, y, z) := ⟨_, _, _, rfl⟩
  have hdec3 : Hid (headR2 l 0 = ((idR a s, (opsRd m0 l3 e3).1), (opsRd m0 l3 e3).2)) := by
    rw [Hid, hdec2.out]
    unfold bindR
    rw [hB3]
    rfl
  rw [hB3] at hnl R ⊢
  dsimp only at hnl R ⊢
  clear hB3 hdec2
  have KP12 := Lib.hid (KP8.out.keep (kp.block gp KP8.out.lt (by have := hgs0.out; omega)))
  have KR12 := Lib.hid (KR8.out.keep (kp.block gr KR8.out.lt (by have := hgs0.out; omega)))
  have B12 : Hid (Below w.heap.size w w12) := B8.out.trans (kp.below (fun k e => by rw [e]; have := hgs0.out; omega) B8.out.size)
  have R12 := Lib.hid R
  clear kp R R8 KP8 KR8 B8
  have hmw : IntKind.i64.wrap (m0 : Int) = (m0 : Int) := by rw [IntKind.wrap_i64]; omega
  obtain ⟨gb, hgbe⟩ : ∃ gb, gb = w12.heap.size := ⟨_, rfl⟩
  have hgb12 : Hid (gb ≤ w12.heap.size) := by rw [Hid, hgbe]; omega
  have hgs : Hid (w.heap.size = gr ∧ gr < g ∧ g < gp ∧ gp < gb) := ⟨hgs0.out.1, hgs0.out.2.1, hgs0.out.2.2, by rw [hgbe]; exact KP12.out.lt⟩
  clear hgbe hgs0
  go_wp2_with fail
  go_loopw [7] (fun v wr => ∃ (k : Nat) (os : List OpV) (l' : List UInt8) (e' : Nat) (A5 : Option Addr) (c5 : Nat), v = .int .i64 (k : Int) ∧ k ≤ m0 ∧ Hid (os.length = k) ∧ Hid (opsRd m0 l3 e3 = (os ++ (opsRd (m0 - k) l' e').1, (opsRd (m0 - k) l' e').2)) ∧ Hid (wr.ownsRow gb 152 8 (.slice A5 os.length c5) os.length (os.flatMap encO)) ∧ Hid (∀ o ∈ os, OpV.ok o) ∧ Hid (Blk wr gp 64 #[.int .u8 (a : Int), .int .u16 (s : Int), .slice none 0 0, .slice A5 os.length c5]) ∧ Hid (RrAt wr B g l' e') ∧ Hid (Blk wr gr 64 #[.int .u8 0, .int .u16 0, .slice none 0 0, .slice none 0 0]) ∧ Hid (Below w.heap.size w wr) ∧ Hid (gb ≤ wr.heap.size)) (fun v _ => m0 - (intOf v).toNat)
  case atStart => exact ⟨0, [], l3, e3, none, 0, rfl, by omega, rfl, by rw [Hid, List.nil_append]; rfl, World.ownsRow_nil _ _ _ _, by simp [Hid], KP12.out, R12.out, KR12.out, B12.out, hgb12.out⟩
  case round =>
    clear R12 KR12 KP12 B12 hgb12
    obtain ⟨k, os, l', e', A5, c5, rfl, hk, hol, HD, OW, OK, KP, RDr, KR, BW, hgb⟩ := hrel
    have hk0 : (0 : Int) ≤ (k : Int) := by omega
    have hol2 : os.length ≤ 200 := by have := hol.out; omega
    have ye : wr.cell? ⟨g, 1, none⟩ = some (.int .i64 (e' : Int)) := by obtain ⟨_, _, hx, _⟩ := RDr.out.ex; exact hx.cell 1
    by_cases hgo : k < m0 ∧ e' = 0
    · obtain ⟨hkm, he⟩ := hgo
      have hz : ((e' : Int) == 0) = true := by rw [he]; rfl
      have hki : (k : Int) < (m0 : Int) := by omega
      have HD2 : Hid (opsRd m0 l3 e3 = ((os ++ [(oneRd l' e').1]) ++ (opsRd (m0 - (k + 1)) (oneRd l' e').2.1 (oneRd l' e').2.2).1, (opsRd (m0 - (k + 1)) (oneRd l' e').2.1 (oneRd l' e').2.2).2)) := by
        rw [Hid, HD.out, he, show m0 - k = (m0 - (k + 1)) + 1 by omega, opsRd_go, List.append_assoc]
        rfl
      have hok := one_ok l' e'
      replace he := Lib.hid he
      clear HD
      go_upto_region 9 with fail
      clear ye
      have RDd := Lib.hid (RDr.out.ext (below_drewN (Below.refl wr.heap.size wr) 1))
      have HO := Lib.hid (rone19_any RDd.out)
      have KPd := Lib.hid (KP.out.ext (below_drewN (Below.refl wr.heap.size wr) 1))
      have KRd := Lib.hid (KR.out.ext (below_drewN (Below.refl wr.heap.size wr) 1))
      have BWd : Hid (Below w.heap.size w (wr.drewN 1)) := below_drewN BW.out 1
      have Od := Lib.hid (own_ext OW.out (below_drewN (Below.refl wr.heap.size wr) 1))
      have hgbd : Hid (gb ≤ (wr.drewN 1).heap.size) := hgb.out
      have hcO : ∀ args u, (callFunc 165 args).run Tryz.prog u = .ok (.enter 165 args) u := enters_of Tryz.func165 (by kernel_rfl) rfl
      refine wp_region_Z (S := fun w' => w'.cell? ⟨gp, 3, none⟩ = some (.slice A5 os.length c5)) (Z := [7]) mixedS ?_
      clear RDr KP KR BW OW hgb
      change wpAnyZ _ _ _ _ _ _ _ _ _ (wr.drewN 1)
      generalize wr.drewN 1 = wd at *
      have c3o : Hid (wd.cell? ⟨gp, 3, none⟩ = some (.slice A5 os.length c5)) := KPd.out.cell 3
      simp only [List.size_toArray, List.length_cons, List.length_nil]
      refine zLight (i := 0) rfl (by kernel_rfl) (by kernel_rfl) (by kernel_rfl) (by kernel_rfl) (fun _ _ _ h => h) rfl (fun w' => exField rfl (fieldPat3 gp w')) (fun _ => c3o.out) ?_
      simp only [Act.put, List.setIfInBounds_toArray, List.set_cons_zero, List.set_cons_succ]
      refine zV (i := 1) rfl (by kernel_rfl) (by kernel_rfl) (by kernel_rfl) (by kernel_rfl) (by kernel_rfl) (fun _ _ _ h => h) rfl (fun w' h => exLoad rfl (loadOpsR gp 3 w' _ _ _ h)) c3o.out ?_
      simp only [Act.put, List.setIfInBounds_toArray, List.set_cons_zero, List.set_cons_succ]
      refine zLight (i := 2) rfl (by kernel_rfl) (by kernel_rfl) (by kernel_rfl) (by kernel_rfl) (fun _ _ _ h => h) rfl (fun w' => exMove (v := .pointer (some ⟨g, 0, none⟩)) rfl) (fun _ => c3o.out) ?_
      simp only [Act.put, List.setIfInBounds_toArray, List.set_cons_zero, List.set_cons_succ]
      refine wpAnyZ_all (rs := [3]) (by kernel_rfl) (by simp) ?_
      intro i hi
      simp only [List.mem_cons, List.not_mem_nil, or_false] at hi
      subst hi
      refine wpOp_of rfl rfl (wp_called (args := #[.pointer (some ⟨g, 0, none⟩)]) hcO (by simp only [List.map_toArray, List.map_cons, List.map_nil]; rfl) (HO.out) ?_)
      rintro e w9 ⟨rfl, kp, R⟩
      have KP9 := Lib.hid (KPd.out.keep (kp.block gp KPd.out.lt (by have := hgs.out; omega)))
      have KR9 := Lib.hid (KRd.out.keep (kp.block gr KRd.out.lt (by have := hgs.out; omega)))
      have B9 : Hid (Below w.heap.size w w9) := BWd.out.trans (kp.below (fun k e => by rw [e]; have := hgs.out; omega) BWd.out.size)
      have O9 := Lib.hid (own_keepF Od.out fun k e => kp.block k (Od.out.lt k e).2 (by have := (Od.out.lt k e).1; have := hgs.out; omega))
      have R9 := Lib.hid R
      have hg9 : Hid (gb ≤ w9.heap.size) := Nat.le_trans hgbd.out kp.size
      clear R kp KPd KRd BWd Od HO RDd
      generalize (oneRd l' e').1 = o at *
      generalize (oneRd l' e').2.1 = l4 at *
      generalize (oneRd l' e').2.2 = e4 at *
      have c39 : Hid (w9.cell? ⟨gp, 3, none⟩ = some (.slice A5 os.length c5)) := KP9.out.cell 3
      refine ⟨_, rfl, fun _ => c39.out, ?_⟩
      simp only [Act.put, List.setIfInBounds_toArray, List.set_cons_zero, List.set_cons_succ]
      refine wpAnyZ_all (rs := [4]) (by kernel_rfl) (by simp) ?_
      intro i hi
      simp only [List.mem_cons, List.not_mem_nil, or_false] at hi
      subst hi
      refine wpOp_of rfl rfl (wp_lit1 opSl (encO_len o) (by omega) rfl ?_)
      refine ⟨fun _ => ((KP9.out.ext (below_new w9 _)).cell 3), ?_⟩
      simp only [Act.put, List.setIfInBounds_toArray, List.set_cons_zero, List.set_cons_succ]
      refine wpAnyZ_all (rs := [5]) (by kernel_rfl) (by simp) ?_
      intro i hi
      simp only [List.mem_cons, List.not_mem_nil, or_false] at hi
      subst hi
      refine wpOp_of rfl rfl (wp_pushF opSl O9.out (encO o) (encO_len o) (encO_one o) hg9.out (by omega) (by unfold maxLen; omega) rfl rfl rfl ?_)
      intro v1 w10 own1 kep1 new1
      have KP10 := Lib.hid (kep1.blk KP9.out (fun e => own_ne_blk O9.out KP9.out (by decide) e rfl))
      have KR10 := Lib.hid (kep1.blk KR9.out (fun e => own_ne_blk O9.out KR9.out (by decide) e rfl))
      have bel1 := kep1.below (B := gb) (fun k e => (O9.out.lt k e).1) hg9.out
      have R10 := Lib.hid (R9.out.belowR bel1 (by have := hgs.out; omega))
      have B10 : Hid (Below w.heap.size w w10) := B9.out.trans (bel1.mono (by have := hgs.out; omega))
      have hg10 : Hid (gb ≤ w10.heap.size) := Nat.le_trans hg9.out bel1.size
      obtain ⟨A6, c6, rfl, _, _⟩ := Sl.of_own own1
      have O10 : Hid (w10.ownsRow gb 152 8 (.slice A6 (os.length + 1) c6) (os ++ [o]).length ((os ++ [o]).flatMap encO)) := by
        rw [Hid, List.flatMap_append, List.length_append]
        simpa using own1
      refine ⟨fun _ => KP10.out.cell 3, ?_⟩
      simp only [Act.put, List.setIfInBounds_toArray, List.set_cons_zero, List.set_cons_succ]
      clear own1 kep1 new1 bel1 O9 KP9 KR9 R9 B9 c39 hg9 c3o
      refine zLight (i := 6) rfl (by kernel_rfl) (by kernel_rfl) (by kernel_rfl) (by kernel_rfl) (fun _ _ _ h => h) rfl (fun w' => exField rfl (fieldPat3 gp w')) (fun _ => KP10.out.cell 3) ?_
      simp only [Act.put, List.setIfInBounds_toArray, List.set_cons_zero, List.set_cons_succ]
      refine wpAnyZ_all (rs := [7]) (by kernel_rfl) (by simp) ?_
      intro i hi
      simp only [List.mem_cons, List.not_mem_nil, or_false] at hi
      subst hi
      refine wpOp_of rfl rfl (wpStored1 rfl rfl (storeOpsR gp 3 w10 A6 (os.length + 1) c6 (KP10.out.cell 3) (KP10.out.fr 3)) ?_)
      refine ⟨noZ (by kernel_rfl), ?_⟩
      have KP11 : Hid (Blk (w10.setCell ⟨gp, 3, none⟩ (.slice A6 (os.length + 1) c6)) gp 64 #[.int .u8 (a : Int), .int .u16 (s : Int), .slice none 0 0, .slice A6 (os ++ [o]).length c6]) := by
        have := KP10.out.set_ 3 (.slice A6 (os.length + 1) c6)
        rw [Hid, List.length_append]
        exact this
      have kp3 : Kept (fun k => k = gp) w10 (w10.setCell ⟨gp, 3, none⟩ (.slice A6 (os.length + 1) c6)) := (Kept.refl (fun k => k = gp) w10).setCell (p := ⟨gp, 3, none⟩) (.inl rfl) _
      have KR11 := Lib.hid (KR10.out.keep (kp3.block gr KR10.out.lt (by have := hgs.out; omega)))
      have R11 := Lib.hid (R10.out.keepB kp3 (by have := hgs.out; omega) (by have := R10.out.ge; have := hgs.out; omega))
      have O11 := Lib.hid (own_keepF O10.out fun k e => kp3.block k (O10.out.lt k e).2 (by have := (O10.out.lt k e).1; have := hgs.out; omega))
      have B11 : Hid (Below w.heap.size w (w10.setCell ⟨gp, 3, none⟩ (.slice A6 (os.length + 1) c6))) := B10.out.trans (kp3.below (fun k e => by rw [e]; have := hgs.out; omega) B10.out.size)
      have hg11 : Hid (gb ≤ (w10.setCell ⟨gp, 3, none⟩ (.slice A6 (os.length + 1) c6)).heap.size) := Nat.le_trans hg10.out kp3.size
      clear KP10 KR10 R10 O10 B10 kp3 hg10
      generalize (w10.setCell ⟨gp, 3, none⟩ (.slice A6 (os.length + 1) c6)) = w11 at *
      refine wpAnyZ_done (by kernel_rfl) ?_ _
      go_wp2_with fail
      have OK11 : Hid (∀ x ∈ os ++ [o], OpV.ok x) := fun x hx => by
        rcases List.mem_append.1 hx with hx | hx
        · exact OK.out x hx
        · rw [List.mem_singleton.1 hx]; unfold OpV.ok maxLen; omega
      have hl11 : Hid ((os ++ [o]).length = k + 1) := by have := hol.out; rw [Hid]; simp; omega
      have O12 : Hid (w11.ownsRow gb 152 8 (.slice A6 (os ++ [o]).length c6) (os ++ [o]).length ((os ++ [o]).flatMap encO)) := by
        have h := O11.out
        have e : os.length + 1 = (os ++ [o]).length := by simp
        rw [e] at h
        exact h
      go_roundw
      case rel => exact ⟨k + 1, os ++ [o], l4, e4, A6, c6, by go_num, by omega, hl11.out, HD2.out, O12.out, OK11.out, KP11.out, R11.out, KR11.out, B11.out, hg11.out⟩
      case measure => simp [intOf]; omega
    · have HDF : Hid (headR2 l 0 = ((idR a s, os), l', e')) := by
        rw [Hid, hdec3.out, HD.out, opsRd_stop (by omega), List.append_nil]
      have hdP : Hid (decP l = if rEnd l' e' ≠ 0 then (zeroPat, rEnd l' e') else if makeN18 (idR a s) os ≠ 0 then (zeroPat, 4) else (makeV18 (idR a s) os, 0)) := by
        rw [Hid]
        unfold decP
        rw [HDF.out]
      clear HDF HD hdec3
      have HEn := Lib.hid (rrEnd_any RDr.out)
      obtain ⟨re, hre⟩ : ∃ re, re = rEnd l' e' := ⟨_, rfl⟩
      rw [← hre] at HEn hdP
      replace hre := Lib.hid hre
      by_cases hkm : k < m0
      · have hki : (k : Int) < (m0 : Int) := by omega
        have hez : ((e' : Int) == 0) = false := by rw [beq_eq_false_iff_ne]; omega
        replace hgo := Lib.hid hgo
        go_wp2_with fail
        refine HEn.out.mono ?_
        rintro e _ ⟨rfl, rfl⟩
        by_cases h1 : re = 0
        · have z0 : ((re : Int) != 0) = false := by rw [h1]; rfl
          have hdP2 : Hid (decP l = if makeN18 (idR a s) os ≠ 0 then (zeroPat, 4) else (makeV18 (idR a s) os, 0)) := by rw [Hid, hdP.out, if_neg (by simpa using h1)]
          replace h1 := Lib.hid h1
          clear hdP ye
          have RPid : Hid (wr.rangeAt gp 0 (encP (idR a s))) := by
            rw [Hid, idR_lit (by omega) (by omega)]
            exact blk_off KP.out fun j v hj => match j, hj with
              | 0, hj => hj
              | 1, hj => hj
              | j + 2, hj => by simp at hj
          have y3 : wr.cell? ⟨gp, 3, none⟩ = some (.slice A5 os.length c5) := KP.out.cell 3
          have OA := Lib.hid (own_opsAt OW.out rfl OK.out)
          go_wp2_with (refine wpList_load_mid rfl 60 _ (by rfl) gp 0 (by rfl) _ _ RPid.out underPid rfl infoPid ?_)
          refine (rdepsP_own (idR a s) os wr A5 os.length c5 (by omega) OA.out).mono ?_
          rintro e w20 ⟨vd, rfl, od, b20⟩
          obtain ⟨A7, c7, rfl, _, _⟩ := Sl.of_own od
          have KP20 := Lib.hid (KP.out.ext b20)
          have KR20 := Lib.hid (KR.out.ext b20)
          have OW20 := Lib.hid (own_ext OW.out b20)
          have OD20 : Hid (w20.ownsRow gb 60 2 (.slice A7 (depsV (idR a s) os).length c7) (depsV (idR a s) os).length ((depsV (idR a s) os).flatMap encP)) := own_mono' od hgb.out
          have B20 := Lib.hid (BW.out.trans (b20.mono BW.out.size))
          clear od b20 KP KR OW BW hgb RPid y3 OA RDr HEn
          have y2 : w20.cell? ⟨gp, 2, none⟩ = some (.slice none 0 0) := KP20.out.cell 2
          have f2 : w20.frozen? ⟨gp, 2, none⟩ = false := KP20.out.fr 2
          have hdl := depsV_le (idR a s) os
          obtain ⟨D, hD⟩ : ∃ D, D = depsV (idR a s) os := ⟨_, rfl⟩
          rw [← hD] at OD20 hdl ⊢
          replace hD := Lib.hid hD
          go_upto_region 13 with fail
          have kp2 : Kept (fun k => k = gp) w20 (w20.setCell ⟨gp, 2, none⟩ (.slice A7 D.length c7)) := (Kept.refl (fun k => k = gp) w20).setCell (p := ⟨gp, 2, none⟩) (.inl rfl) _
          have KP21 : Hid (Blk (w20.setCell ⟨gp, 2, none⟩ (.slice A7 D.length c7)) gp 64 (patC (idR a s) A7 D.length c7 A5 os.length c5).toArray) := by
            have h := KP20.out.set_ 2 (.slice A7 D.length c7)
            have e : patC (idR a s) A7 D.length c7 A5 os.length c5 = encP (idR a s) ++ [.slice A7 D.length c7, .slice A5 os.length c5] := rfl
            rw [Hid, e, idR_lit (by omega) (by omega)]
            exact h
          have KR21 := Lib.hid (KR20.out.keep (kp2.block gr KR20.out.lt (by have := hgs.out; omega)))
          have OW21 := Lib.hid (own_keepF OW20.out fun k e => kp2.block k (OW20.out.lt k e).2 (by have := (OW20.out.lt k e).1; have := hgs.out; omega))
          have OD21 := Lib.hid (own_keepF OD20.out fun k e => kp2.block k (OD20.out.lt k e).2 (by have := (OD20.out.lt k e).1; have := hgs.out; omega))
          have B21 : Hid (Below w.heap.size w (w20.setCell ⟨gp, 2, none⟩ (.slice A7 D.length c7))) := B20.out.trans (kp2.below (fun k e => by rw [e]; have := hgs.out; omega) B20.out.size)
          clear kp2 y2 f2 KP20 KR20 OW20 OD20 B20
          generalize (w20.setCell ⟨gp, 2, none⟩ (.slice A7 D.length c7)) = w21 at *
          have PI := Lib.hid (PatIn.of_copy (p := (idR a s, D, os)) OD21.out OW21.out OK.out (by show D.length ≤ _; unfold maxLen; omega) (by show os.length ≤ _; unfold maxLen; omega))
          have HG := Lib.hid (rgood18_any (idR a s, D, os) w21 _ PI.out.at_)
          clear OW21 OD21
          by_cases hmk : patB (idR a s, D, os) = true
          · have hdP3 : Hid (decP l = ((idR a s, D, os), 0)) := by
              rw [hD.out] at hmk
              rw [Hid, hdP2.out, if_neg (by unfold makeN18; rw [if_pos hmk]; decide), hD.out]
              unfold makeV18
              rw [if_pos hmk]
            rw [hmk] at HG
            replace hmk := Lib.hid hmk
            go_wp2_with (refine wpList_load_row rfl 64 _ (by rfl) gp (by rfl) _ _ _ _ KP21.out underPat rfl infoPat ?_)
            refine HG.out.mono ?_
            rintro e w22 ⟨rfl, b22⟩
            have KP22 := Lib.hid (KP21.out.ext b22)
            have KR22 := Lib.hid (KR21.out.ext b22)
            have PI22 := Lib.hid (PI.out.ext b22)
            have B22 := Lib.hid (B21.out.trans (b22.mono B21.out.size))
            clear b22 KP21 KR21 PI B21 HG
            have kp3 : Kept (fun k => k = gr) w22 (w22.setRow gr (patC (idR a s) A7 D.length c7 A5 os.length c5).toArray) := kept_row (fun k => k = gr) w22 rfl _
            go_wp2_with (first
              | (refine wpList_load_row rfl 64 _ (by rfl) gp (by rfl) _ _ _ _ KP22.out underPat rfl infoPat ?_)
              | (refine wpList_store_row rfl 64 _ _ (by rfl) gr (patC (idR a s) A7 D.length c7 A5 os.length c5).toArray (by rfl) (by rfl) _ _ KR22.out infoPat rfl patC_one ?_))
            refine bodyPost_ret (results_row_tmp rfl _ _ gr _ (patC (idR a s) A7 D.length c7 A5 os.length c5).toArray _ rfl (KR22.out.row _) underPat rfl infoPat) rfl ?_
            rw [hdP3.out]
            refine ⟨_, rfl, (PI22.out.stay (kp3.stay fun k _ h1 h2 => ?_)).mono (fun k h => by have h1 : gb ≤ k := h.1; have := hgs.out; omega), B22.out.trans (kp3.below (fun k e => by rw [e]; have := hgs.out; omega) B22.out.size)⟩
            have h2 : k = gr := h2
            have := hgs.out
            have := h1.1
            omega
          · have hdP3 : Hid (decP l = (zeroPat, 4)) := by
              rw [hD.out] at hmk
              rw [Hid, hdP2.out, if_pos (by unfold makeN18; rw [if_neg hmk]; decide)]
            rw [eq_false_of_ne_true hmk] at HG
            replace hmk := Lib.hid hmk
            go_wp2_with (refine wpList_load_row rfl 64 _ (by rfl) gp (by rfl) _ _ _ _ KP21.out underPat rfl infoPat ?_)
            refine HG.out.mono ?_
            rintro e w22 ⟨rfl, b22⟩
            have KR22 := Lib.hid (KR21.out.ext b22)
            have B22 := Lib.hid (B21.out.trans (b22.mono B21.out.size))
            clear b22 KP21 KR21 PI B21 HG
            have kp3 : Kept (fun k => k = gr) w22 (w22.setRow gr #[.int .u8 0, .int .u16 0, .slice none 0 0, .slice none 0 0]) := kept_row (fun k => k = gr) w22 rfl _
            go_wp2_with (first
              | (refine wpList_built (buildZero _) (by rfl) ?_)
              | (refine wpList_store_row rfl 64 _ _ (by rfl) gr #[.int .u8 0, .int .u16 0, .slice none 0 0, .slice none 0 0] (by rfl) (by rfl) _ _ KR22.out infoPat rfl zeroC_one ?_))
            refine bodyPost_ret (results_row_tmp rfl _ _ gr _ #[.int .u8 0, .int .u16 0, .slice none 0 0, .slice none 0 0] _ rfl (KR22.out.row _) underPat rfl infoPat) rfl ?_
            rw [hdP3.out]
            exact ⟨_, rfl, zero_in _ _, B22.out.trans (kp3.below (fun k e => by rw [e]; have := hgs.out; omega) B22.out.size)⟩
        · have z0 : ((re : Int) != 0) = true := by rw [bne_iff_ne]; omega
          have hdP3 : Hid (decP l = (zeroPat, re)) := by rw [Hid, hdP.out, if_pos h1]
          replace h1 := Lib.hid h1
          clear hdP ye
          have kp3 : Kept (fun k => k = gr) wr (wr.setRow gr #[.int .u8 0, .int .u16 0, .slice none 0 0, .slice none 0 0]) := kept_row (fun k => k = gr) wr rfl _
          go_wp2_with (refine wpList_built (buildZero _) (by rfl) ?_)
          refine HEn.out.mono ?_
          rintro e _ ⟨rfl, rfl⟩
          go_wp2_with (refine wpList_store_row rfl 64 _ _ (by rfl) gr #[.int .u8 0, .int .u16 0, .slice none 0 0, .slice none 0 0] (by rfl) (by rfl) _ _ KR.out infoPat rfl zeroC_one ?_)
          refine bodyPost_ret (results_row_tmp rfl _ _ gr _ #[.int .u8 0, .int .u16 0, .slice none 0 0, .slice none 0 0] _ rfl (KR.out.row _) underPat rfl infoPat) rfl ?_
          rw [hdP3.out]
          exact ⟨_, rfl, zero_in _ _, BW.out.trans (kp3.below (fun k e => by rw [e]; have := hgs.out; omega) BW.out.size)⟩
      · have hki : ¬ (k : Int) < (m0 : Int) := by omega
        replace hgo := Lib.hid hgo
        go_wp2_with fail
        refine HEn.out.mono ?_
        rintro e _ ⟨rfl, rfl⟩
        by_cases h1 : re = 0
        · have z0 : ((re : Int) != 0) = false := by rw [h1]; rfl
          have hdP2 : Hid (decP l = if makeN18 (idR a s) os ≠ 0 then (zeroPat, 4) else (makeV18 (idR a s) os, 0)) := by rw [Hid, hdP.out, if_neg (by simpa using h1)]
          replace h1 := Lib.hid h1
          clear hdP ye
          have RPid : Hid (wr.rangeAt gp 0 (encP (idR a s))) := by
            rw [Hid, idR_lit (by omega) (by omega)]
            exact blk_off KP.out fun j v hj => match j, hj with
              | 0, hj => hj
              | 1, hj => hj
              | j + 2, hj => by simp at hj
          have y3 : wr.cell? ⟨gp, 3, none⟩ = some (.slice A5 os.length c5) := KP.out.cell 3
          have OA := Lib.hid (own_opsAt OW.out rfl OK.out)
          go_wp2_with (refine wpList_load_mid rfl 60 _ (by rfl) gp 0 (by rfl) _ _ RPid.out underPid rfl infoPid ?_)
          refine (rdepsP_own (idR a s) os wr A5 os.length c5 (by omega) OA.out).mono ?_
          rintro e w20 ⟨vd, rfl, od, b20⟩
          obtain ⟨A7, c7, rfl, _, _⟩ := Sl.of_own od
          have KP20 := Lib.hid (KP.out.ext b20)
          have KR20 := Lib.hid (KR.out.ext b20)
          have OW20 := Lib.hid (own_ext OW.out b20)
          have OD20 : Hid (w20.ownsRow gb 60 2 (.slice A7 (depsV (idR a s) os).length c7) (depsV (idR a s) os).length ((depsV (idR a s) os).flatMap encP)) := own_mono' od hgb.out
          have B20 := Lib.hid (BW.out.trans (b20.mono BW.out.size))
          clear od b20 KP KR OW BW hgb RPid y3 OA RDr HEn
          have y2 : w20.cell? ⟨gp, 2, none⟩ = some (.slice none 0 0) := KP20.out.cell 2
          have f2 : w20.frozen? ⟨gp, 2, none⟩ = false := KP20.out.fr 2
          have hdl := depsV_le (idR a s) os
          obtain ⟨D, hD⟩ : ∃ D, D = depsV (idR a s) os := ⟨_, rfl⟩
          rw [← hD] at OD20 hdl ⊢
          replace hD := Lib.hid hD
          go_upto_region 13 with fail
          have kp2 : Kept (fun k => k = gp) w20 (w20.setCell ⟨gp, 2, none⟩ (.slice A7 D.length c7)) := (Kept.refl (fun k => k = gp) w20).setCell (p := ⟨gp, 2, none⟩) (.inl rfl) _
          have KP21 : Hid (Blk (w20.setCell ⟨gp, 2, none⟩ (.slice A7 D.length c7)) gp 64 (patC (idR a s) A7 D.length c7 A5 os.length c5).toArray) := by
            have h := KP20.out.set_ 2 (.slice A7 D.length c7)
            have e : patC (idR a s) A7 D.length c7 A5 os.length c5 = encP (idR a s) ++ [.slice A7 D.length c7, .slice A5 os.length c5] := rfl
            rw [Hid, e, idR_lit (by omega) (by omega)]
            exact h
          have KR21 := Lib.hid (KR20.out.keep (kp2.block gr KR20.out.lt (by have := hgs.out; omega)))
          have OW21 := Lib.hid (own_keepF OW20.out fun k e => kp2.block k (OW20.out.lt k e).2 (by have := (OW20.out.lt k e).1; have := hgs.out; omega))
          have OD21 := Lib.hid (own_keepF OD20.out fun k e => kp2.block k (OD20.out.lt k e).2 (by have := (OD20.out.lt k e).1; have := hgs.out; omega))
          have B21 : Hid (Below w.heap.size w (w20.setCell ⟨gp, 2, none⟩ (.slice A7 D.length c7))) := B20.out.trans (kp2.below (fun k e => by rw [e]; have := hgs.out; omega) B20.out.size)
          clear kp2 y2 f2 KP20 KR20 OW20 OD20 B20
          generalize (w20.setCell ⟨gp, 2, none⟩ (.slice A7 D.length c7)) = w21 at *
          have PI := Lib.hid (PatIn.of_copy (p := (idR a s, D, os)) OD21.out OW21.out OK.out (by show D.length ≤ _; unfold maxLen; omega) (by show os.length ≤ _; unfold maxLen; omega))
          have HG := Lib.hid (rgood18_any (idR a s, D, os) w21 _ PI.out.at_)
          clear OW21 OD21
          by_cases hmk : patB (idR a s, D, os) = true
          · have hdP3 : Hid (decP l = ((idR a s, D, os), 0)) := by
              rw [hD.out] at hmk
              rw [Hid, hdP2.out, if_neg (by unfold makeN18; rw [if_pos hmk]; decide), hD.out]
              unfold makeV18
              rw [if_pos hmk]
            rw [hmk] at HG
            replace hmk := Lib.hid hmk
            go_wp2_with (refine wpList_load_row rfl 64 _ (by rfl) gp (by rfl) _ _ _ _ KP21.out underPat rfl infoPat ?_)
            refine HG.out.mono ?_
            rintro e w22 ⟨rfl, b22⟩
            have KP22 := Lib.hid (KP21.out.ext b22)
            have KR22 := Lib.hid (KR21.out.ext b22)
            have PI22 := Lib.hid (PI.out.ext b22)
            have B22 := Lib.hid (B21.out.trans (b22.mono B21.out.size))
            clear b22 KP21 KR21 PI B21 HG
            have kp3 : Kept (fun k => k = gr) w22 (w22.setRow gr (patC (idR a s) A7 D.length c7 A5 os.length c5).toArray) := kept_row (fun k => k = gr) w22 rfl _
            go_wp2_with (first
              | (refine wpList_load_row rfl 64 _ (by rfl) gp (by rfl) _ _ _ _ KP22.out underPat rfl infoPat ?_)
              | (refine wpList_store_row rfl 64 _ _ (by rfl) gr (patC (idR a s) A7 D.length c7 A5 os.length c5).toArray (by rfl) (by rfl) _ _ KR22.out infoPat rfl patC_one ?_))
            refine bodyPost_ret (results_row_tmp rfl _ _ gr _ (patC (idR a s) A7 D.length c7 A5 os.length c5).toArray _ rfl (KR22.out.row _) underPat rfl infoPat) rfl ?_
            rw [hdP3.out]
            refine ⟨_, rfl, (PI22.out.stay (kp3.stay fun k _ h1 h2 => ?_)).mono (fun k h => by have h1 : gb ≤ k := h.1; have := hgs.out; omega), B22.out.trans (kp3.below (fun k e => by rw [e]; have := hgs.out; omega) B22.out.size)⟩
            have h2 : k = gr := h2
            have := hgs.out
            have := h1.1
            omega
          · have hdP3 : Hid (decP l = (zeroPat, 4)) := by
              rw [hD.out] at hmk
              rw [Hid, hdP2.out, if_pos (by unfold makeN18; rw [if_neg hmk]; decide)]
            rw [eq_false_of_ne_true hmk] at HG
            replace hmk := Lib.hid hmk
            go_wp2_with (refine wpList_load_row rfl 64 _ (by rfl) gp (by rfl) _ _ _ _ KP21.out underPat rfl infoPat ?_)
            refine HG.out.mono ?_
            rintro e w22 ⟨rfl, b22⟩
            have KR22 := Lib.hid (KR21.out.ext b22)
            have B22 := Lib.hid (B21.out.trans (b22.mono B21.out.size))
            clear b22 KP21 KR21 PI B21 HG
            have kp3 : Kept (fun k => k = gr) w22 (w22.setRow gr #[.int .u8 0, .int .u16 0, .slice none 0 0, .slice none 0 0]) := kept_row (fun k => k = gr) w22 rfl _
            go_wp2_with (first
              | (refine wpList_built (buildZero _) (by rfl) ?_)
              | (refine wpList_store_row rfl 64 _ _ (by rfl) gr #[.int .u8 0, .int .u16 0, .slice none 0 0, .slice none 0 0] (by rfl) (by rfl) _ _ KR22.out infoPat rfl zeroC_one ?_))
            refine bodyPost_ret (results_row_tmp rfl _ _ gr _ #[.int .u8 0, .int .u16 0, .slice none 0 0, .slice none 0 0] _ rfl (KR22.out.row _) underPat rfl infoPat) rfl ?_
            rw [hdP3.out]
            exact ⟨_, rfl, zero_in _ _, B22.out.trans (kp3.below (fun k e => by rw [e]; have := hgs.out; omega) B22.out.size)⟩
        · have z0 : ((re : Int) != 0) = true := by rw [bne_iff_ne]; omega
          have hdP3 : Hid (decP l = (zeroPat, re)) := by rw [Hid, hdP.out, if_pos h1]
          replace h1 := Lib.hid h1
          clear hdP ye
          have kp3 : Kept (fun k => k = gr) wr (wr.setRow gr #[.int .u8 0, .int .u16 0, .slice none 0 0, .slice none 0 0]) := kept_row (fun k => k = gr) wr rfl _
          go_wp2_with (refine wpList_built (buildZero _) (by rfl) ?_)
          refine HEn.out.mono ?_
          rintro e _ ⟨rfl, rfl⟩
          go_wp2_with (refine wpList_store_row rfl 64 _ _ (by rfl) gr #[.int .u8 0, .int .u16 0, .slice none 0 0, .slice none 0 0] (by rfl) (by rfl) _ _ KR.out infoPat rfl zeroC_one ?_)
          refine bodyPost_ret (results_row_tmp rfl _ _ gr _ #[.int .u8 0, .int .u16 0, .slice none 0 0, .slice none 0 0] _ rfl (KR.out.row _) underPat rfl infoPat) rfl ?_
          rw [hdP3.out]
          exact ⟨_, rfl, zero_in _ _, BW.out.trans (kp3.below (fun k e => by rw [e]; have := hgs.out; omega) BW.out.size)⟩
end Go.Proofs.YtdafiipedlglpaaGreatDoor
