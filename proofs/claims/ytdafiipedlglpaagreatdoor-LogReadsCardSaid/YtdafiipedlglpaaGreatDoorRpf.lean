/- The reference's reading of an operation: walked. -/
import Derived.Test.YtdafiipedlglpaaGreatDoorRps
import Derived.Test.YtdafiipedlglpaaGreatDoorPcds
namespace Go.Proofs.YtdafiipedlglpaaGreatDoor
open Go.RowKit

theorem quoU_run (m d : Nat) (hd : 0 < d) (hm : m < 18446744073709551616) (w : World) : (binOp .quo 25 (.int .u64 (m : Int)) (.int .u64 (d : Int))).run Tryz.prog w = .ok (.int .u64 ((m / d : Nat) : Int)) w := by
  have e : ∀ q : Nat, q = m / d → (q : Int) = IntKind.u64.wrap ((m : Int) / (d : Int)) := fun q hq => by
    have h1 : q ≤ m := by rw [hq]; exact Nat.div_le_self m d
    rw [← Int.natCast_ediv, ← hq, IntKind.wrap_u64]
    clear hq
    omega
  have h2 : ¬ d = 0 := by omega
  rw [e _ rfl]
  simp [go_sem, h2]
theorem remU_run (m d : Nat) (hd : 0 < d) (w : World) : (binOp .rem 25 (.int .u64 (m : Int)) (.int .u64 (d : Int))).run Tryz.prog w = .ok (.int .u64 ((m % d : Nat) : Int)) w := by
  have e : ((m % d : Nat) : Int) = Int.tmod (m : Int) (d : Int) := by rw [Int.tmod_eq_emod_of_nonneg (by omega)]; exact Int.natCast_emod m d
  have h2 : ¬ d = 0 := by omega
  rw [e]
  simp [go_sem, h2]
theorem mulU_run {a b : Nat} (h : a * b < 18446744073709551616) (w : World) : (binOp .mul 25 (.int .u64 (a : Int)) (.int .u64 (b : Int))).run Tryz.prog w = .ok (.int .u64 ((a * b : Nat) : Int)) w := by
  have e : ((a * b : Nat) : Int) = IntKind.u64.wrap ((a : Int) * (b : Int)) := by
    rw [← Int.natCast_mul, IntKind.wrap_u64]; omega
  rw [e]
  simp [go_sem]
theorem low16m_run (m : Nat) (w : World) : (convert 25 22 (.int .u64 (m : Int))).run Tryz.prog w = .ok (.int .u16 ((m % 65536 : Nat) : Int)) w := by
  have e : ((m % 65536 : Nat) : Int) = IntKind.u16.wrap (m : Int) := by rw [IntKind.wrap_u16]; omega
  rw [e]
  simp [go_sem]
theorem up16_run (q : Nat) (h : q < 65536) (w : World) : (convert 22 25 (.int .u16 (q : Int))).run Tryz.prog w = .ok (.int .u64 (q : Int)) w := by
  have e : (q : Int) = IntKind.u64.wrap (q : Int) := by rw [IntKind.wrap_u64]; omega
  conv => rhs; rw [e]
  simp [go_sem]
theorem allocVid (w : World) : (Instr.alloc 98 true (.tuple #[])).run Tryz.prog w = .ok (.pointer (some ⟨w.heap.size, 0, none⟩)) (w.alloc (.cells #[.int .u8 0, .int .u16 0, .int .u8 0] 98)) := by kernel_rfl
set_option maxRecDepth 100000 in
set_option maxHeartbeats 2000000 in
theorem rpack19 (v : VidV) (w : World) : Calls Tryz.prog 171 #[.agg (encV v).toArray] w (RetB w (.int .u64 ((packN v : Nat) : Int))) := by
  have K : Hid (Blk (w.alloc (.cells (encV v).toArray 98)) w.heap.size 98 (encV v).toArray) := Blk.new _ _ _
  have B0 : Hid (Below w.heap.size w (w.alloc (.cells (encV v).toArray 98))) := below_new _ _
  obtain ⟨a, ha⟩ : ∃ a, a = v.1.1.val := ⟨_, rfl⟩
  obtain ⟨s, hs⟩ : ∃ s, s = v.1.2.val := ⟨_, rfl⟩
  obtain ⟨n, hn⟩ : ∃ n, n = v.2.val := ⟨_, rfl⟩
  have ba := v.1.1.isLt
  have bs := v.1.2.isLt
  have bn := v.2.isLt
  rw [← ha] at ba
  rw [← hs] at bs
  rw [← hn] at bn
  have E : Hid (packN v = a * 16777216 + s * 256 + n) := by rw [Hid, ha, hs, hn]; rfl
  go_enter Tryz.func171, Tryz.ntmps171
  go_upto_region 1 with fail
  generalize (w.alloc (.cells (encV v).toArray 98)) = w2 at *
  have y0 : w2.cell? ⟨w.heap.size, 0, none⟩ = some (.int .u8 (a : Int)) := by rw [ha]; exact K.out.cell 0
  have y1 : w2.cell? ⟨w.heap.size, 1, none⟩ = some (.int .u16 (s : Int)) := by rw [hs]; exact K.out.cell 1
  have y2 : w2.cell? ⟨w.heap.size, 2, none⟩ = some (.int .u8 (n : Int)) := by rw [hn]; exact K.out.cell 2
  clear ha hs hn K
  have CA := fun u => up8_run a u (by omega)
  have CS := fun u => up16_run s bs u
  have CN := fun u => up8_run n u (by omega)
  have M1 := fun u => mulU_run (a := a) (b := 16777216) (by omega) u
  have M2 := fun u => mulU_run (a := s) (b := 256) (by omega) u
  have A1 := fun u => addU_run (a := a * 16777216) (b := s * 256) (by omega) u
  have A2 := fun u => addU_run (a := a * 16777216 + s * 256) (b := n) (by omega) u
  rw [← E.out] at A2
  clear E ba bs bn
  generalize packN v = P at *
  generalize a * 16777216 + s * 256 = z3 at *
  generalize a * 16777216 = z1 at *
  generalize s * 256 = z2 at *
  go_wp2_with (first
    | ((with_reducible refine wpList_convB ?_ (CA _) ?_); rfl)
    | ((with_reducible refine wpList_convB ?_ (CS _) ?_); rfl)
    | ((with_reducible refine wpList_convB ?_ (CN _) ?_); rfl)
    | ((with_reducible refine wpList_binB (op := .mul) ?_ ?_ ?_ (M1 _) ?_); rfl; rfl; simp [eqGuard])
    | ((with_reducible refine wpList_binB (op := .mul) ?_ ?_ ?_ (M2 _) ?_); rfl; rfl; simp [eqGuard])
    | ((with_reducible refine wpList_binB (op := .add) ?_ ?_ ?_ (A1 _) ?_); rfl; rfl; simp [eqGuard])
    | ((with_reducible refine wpList_binB (op := .add) ?_ ?_ ?_ (A2 _) ?_); rfl; rfl; simp [eqGuard]))
  go_ret
  exact ⟨rfl, B0.out⟩
set_option maxRecDepth 100000 in
set_option maxHeartbeats 2000000 in
theorem runpack19 (n : Nat) (hn : n ≤ 4294967295) (w : World) : Calls Tryz.prog 207 #[.int .u64 (n : Int)] w (RetB w (.agg (encV (unpackN n)).toArray)) := by
  have K : Hid (Blk (w.alloc (.cells #[.int .u8 0, .int .u16 0, .int .u8 0] 98)) w.heap.size 98 #[.int .u8 0, .int .u16 0, .int .u8 0]) := Blk.new _ _ _
  have B0 : Hid (Below w.heap.size w (w.alloc (.cells #[.int .u8 0, .int .u16 0, .int .u8 0] 98))) := below_new _ _
  have E : Hid ((encV (unpackN n)).toArray = #[.int .u8 ((n / 16777216 % 256 : Nat) : Int), .int .u16 ((n / 256 % 65536 : Nat) : Int), .int .u8 ((n % 256 : Nat) : Int)]) := rfl
  have Q1 := fun u => quoU_run n 16777216 (by omega) (by omega) u
  have C1 := fun u => low8_run (n / 16777216) u
  have Q2 := fun u => quoU_run n 256 (by omega) (by omega) u
  have R2 := fun u => remU_run (n / 256) 65536 (by omega) u
  have C2 := fun u => low16m_run (n / 256 % 65536) u
  have R3 := fun u => remU_run n 256 (by omega) u
  have C3 := fun u => low8_run (n % 256) u
  rw [show n / 256 % 65536 % 65536 = n / 256 % 65536 by omega] at C2
  rw [show n % 256 % 256 = n % 256 by omega] at C3
  have hx : n / 16777216 % 256 < 256 := by omega
  generalize n / 16777216 % 256 = a at *
  generalize n / 256 % 65536 = s at *
  generalize n % 256 = m at *
  generalize n / 16777216 = z1 at *
  generalize n / 256 = z2 at *
  rw [E.out]
  clear E hx
  go_enter Tryz.func207, Tryz.ntmps207
  go_upto_region 1 with (refine wpList_alloced (allocVid _) ?_)
  generalize (w.alloc (.cells #[.int .u8 0, .int .u16 0, .int .u8 0] 98)) = w2 at *
  generalize hgr : w.heap.size = gr at *
  have kp3 : Kept (fun k => k = gr) w2 (w2.setRow gr #[.int .u8 (a : Int), .int .u16 (s : Int), .int .u8 (m : Int)]) := kept_row (fun k => k = gr) w2 rfl _
  go_wp2_with (first
    | ((with_reducible refine wpList_binB (op := .quo) ?_ ?_ ?_ (Q1 _) ?_); rfl; rfl; simp [eqGuard])
    | ((with_reducible refine wpList_binB (op := .quo) ?_ ?_ ?_ (Q2 _) ?_); rfl; rfl; simp [eqGuard])
    | ((with_reducible refine wpList_binB (op := .rem) ?_ ?_ ?_ (R2 _) ?_); rfl; rfl; simp [eqGuard])
    | ((with_reducible refine wpList_binB (op := .rem) ?_ ?_ ?_ (R3 _) ?_); rfl; rfl; simp [eqGuard])
    | ((with_reducible refine wpList_convB ?_ (C1 _) ?_); rfl)
    | ((with_reducible refine wpList_convB ?_ (C2 _) ?_); rfl)
    | ((with_reducible refine wpList_convB ?_ (C3 _) ?_); rfl)
    | (refine wpList_store_row rfl 98 _ _ (by rfl) gr #[.int .u8 (a : Int), .int .u16 (s : Int), .int .u8 (m : Int)] (by rfl) (by rfl) _ _ K.out infoVid rfl (by simp [Value.oneCell']) ?_))
  refine bodyPost_ret (results_cell_row rfl _ _ gr _ #[.int .u8 (a : Int), .int .u16 (s : Int), .int .u8 (m : Int)] _ _ rfl (K.out.row _) underVid rfl infoVid) rfl ?_
  refine ⟨rfl, ?_⟩
  rw [hgr]
  exact B0.out.trans (kp3.below (fun k e => by have e2 : k = gr := e; omega) (by rw [← hgr]; exact B0.out.size))
theorem RrAt.keepB {w w' : World} {B g e go : Nat} {l : List UInt8} (h : RrAt w B g l e) (hk : Kept (fun k => k = go) w w') (hne : g ≠ go) (hB : B ≤ go) : RrAt w' B g l e := by
  obtain ⟨A, c, h1, h2, h3, h4⟩ := h.ex
  have hb := hk.below (B := B) (fun k e => e ▸ hB) (by have := h1.lt; have := h.ge; omega)
  exact ⟨h.ge, A, c, h1.keep (hk.block g h1.lt hne), h2, h3, h4.below hb (Nat.le_refl _)⟩
def ROneRet (w : World) (B g : Nat) (r : OpV × List UInt8 × Nat) (en : Ending) (w' : World) : Prop := en = .returned (.agg (encO r.1).toArray) ∧ Kept (fun k => k = g) w w' ∧ RrAt w' B g r.2.1 r.2.2
set_option maxRecDepth 100000 in
set_option maxHeartbeats 8000000 in
theorem rone19_any {w : World} {B g e0 : Nat} {l : List UInt8} (h : RrAt w B g l e0) : Calls Tryz.prog 165 #[.pointer (some ⟨g, 0, none⟩)] w (ROneRet w B g (oneRd l e0)) := by
  have H := Lib.hid h
  have hg : g < w.heap.size := by obtain ⟨_, _, h1, _⟩ := h.ex; exact h1.lt
  have hBw : Hid (B ≤ w.heap.size) := by have := h.ge; rw [Hid]; omega
  clear h
  have KR0 : Hid (Blk (w.alloc (.cells #[.int .u8 0, .int .u8 0, .int .u16 0, .int .u8 0, .int .u8 0, .int .u16 0, .int .u8 0, .string ByteArray.empty] 152)) w.heap.size 152 #[.int .u8 0, .int .u8 0, .int .u16 0, .int .u8 0, .int .u8 0, .int .u16 0, .int .u8 0, .string ByteArray.empty]) := Blk.new _ _ _
  have B0 : Hid (Below w.heap.size w (w.alloc (.cells #[.int .u8 0, .int .u8 0, .int .u16 0, .int .u8 0, .int .u8 0, .int .u16 0, .int .u8 0, .string ByteArray.empty] 152))) := below_new _ _
  go_enter Tryz.func165, Tryz.ntmps165
  go_upto_region 1 with (refine wpList_alloced (allocOp _) ?_)
  generalize (w.alloc (.cells #[.int .u8 0, .int .u8 0, .int .u16 0, .int .u8 0, .int .u8 0, .int .u16 0, .int .u8 0, .string ByteArray.empty] 152)) = w1 at *
  have H1 := Lib.hid (H.out.ext B0.out)
  have KWa : Hid (Kept (fun k => k = g) w w1) := Kept.of_below B0.out
  obtain ⟨gr, hgr⟩ : ∃ gr, gr = w.heap.size := ⟨_, rfl⟩
  rw [← hgr] at KR0 hg ⊢
  replace hgr := Lib.hid hgr
  have KO1 : Hid (Blk (w1.alloc (.cells #[.int .u8 0, .int .u8 0, .int .u16 0, .int .u8 0, .int .u8 0, .int .u16 0, .int .u8 0, .string ⟨#[]⟩] 152)) w1.heap.size 152 #[.int .u8 0, .int .u8 0, .int .u16 0, .int .u8 0, .int .u8 0, .int .u16 0, .int .u8 0, .string ⟨#[]⟩]) := Blk.new w1 152 #[.int .u8 0, .int .u8 0, .int .u16 0, .int .u8 0, .int .u8 0, .int .u16 0, .int .u8 0, .string ⟨#[]⟩]
  have BN : Hid (Below w1.heap.size w1 (w1.alloc (.cells #[.int .u8 0, .int .u8 0, .int .u16 0, .int .u8 0, .int .u8 0, .int .u16 0, .int .u8 0, .string ⟨#[]⟩] 152))) := below_new w1 _
  go_upto_region 2 with fail
  generalize (w1.alloc (.cells #[.int .u8 0, .int .u8 0, .int .u16 0, .int .u8 0, .int .u8 0, .int .u16 0, .int .u8 0, .string ⟨#[]⟩] 152)) = w2 at *
  have H2 := Lib.hid (H1.out.ext BN.out)
  have KR2 := Lib.hid (KR0.out.ext BN.out)
  have KW2 : Hid (Kept (fun k => k = g) w w2) := KWa.out.then BN.out
  have hog : Hid (w1.heap.size ≠ g ∧ w1.heap.size ≠ gr) := by
    have h1 := KWa.out.size
    have h2 := KR0.out.lt
    have := hgr.out
    rw [Hid]; omega
  have hgoW : Hid (w.heap.size ≤ w1.heap.size) := KWa.out.size
  clear BN H1 H KR0 KWa B0
  generalize w1.heap.size = go at *
  have hgB : Hid (B ≤ go) := by have := hBw.out; have := hgoW.out; rw [Hid]; omega
  have hgrW : Hid (w.heap.size ≤ gr ∧ B ≤ gr) := by have := hgr.out; have := hBw.out; rw [Hid]; omega
  go_wp2_with fail
  refine (rrByte_any H2.out 5).mono ?_
  rintro e wx ⟨rfl, kp, rd⟩
  have hkl := rByte_le 5 l e0
  have hone : Hid (oneRd l e0 = bindR (refsR (rByte 5 l e0).1) (fun v => bindR (textR (rByte 5 l e0).1) fun t => pureR (kindF (rByte 5 l e0).1, v.1, v.2, bytesOf t)) (rByte 5 l e0).2.1 (rByte 5 l e0).2.2) := rfl
  obtain ⟨k, l1, e1, hB⟩ : ∃ x y z, rByte 5 l e0 = (x, y, z) := ⟨_, _, _, rfl⟩
  rw [hB] at hkl rd hone ⊢
  dsimp only at hkl rd hone ⊢
  clear hB
  have hkv : Hid ((kindF k).val = k) := Nat.mod_eq_of_lt (by omega)
  have KWx : Hid (Kept (fun k => k = g) w wx) := KW2.out.trans kp fun _ e => .inl e
  have RDx := Lib.hid rd
  have KRx := Lib.hid (KR2.out.keep (kp.block gr KR2.out.lt (by omega)))
  have KOx := Lib.hid (KO1.out.keep (kp.block go KO1.out.lt hog.out.1))
  clear kp rd KW2 KR2 KO1 H2
  have y0 : wx.cell? ⟨go, 0, none⟩ = some (.int .u8 0) := KOx.out.cell 0
  have f0 : wx.frozen? ⟨go, 0, none⟩ = false := KOx.out.fr 0
  have kp : Kept (fun k => k = go) wx (wx.setCell ⟨go, 0, none⟩ (.int .u8 (k : Int))) := (Kept.refl (fun k => k = go) wx).setCell (p := ⟨go, 0, none⟩) (.inl rfl) _
  have KO3 : Hid (Blk (wx.setCell ⟨go, 0, none⟩ (.int .u8 (k : Int))) go 152 (encO (emptyO k)).toArray) := by
    rw [Hid, emptyO_lit k (by omega)]
    exact KOx.out.set_ 0 (.int .u8 (k : Int))
  have KR3 := Lib.hid (KRx.out.keep (kp.block gr KRx.out.lt (Ne.symm hog.out.2)))
  have RD3 : Hid (RrAt (wx.setCell ⟨go, 0, none⟩ (.int .u8 (k : Int))) B g l1 e1) := RDx.out.keepB kp (fun e => hog.out.1 e.symm) hgB.out
  have KW3 : Hid (Kept (fun k => k = g) w (wx.setCell ⟨go, 0, none⟩ (.int .u8 (k : Int)))) := KWx.out.trans kp fun x e => .inr (by rw [e]; exact hgoW.out)
  go_upto_region 3 with fail
  clear y0 f0 kp KOx KRx RDx KWx
  generalize (wx.setCell ⟨go, 0, none⟩ (.int .u8 (k : Int))) = w3 at *
  have yk : w3.cell? ⟨go, 0, none⟩ = some (.int .u8 (k : Int)) := by
    have h1 := KO3.out.cell 0
    have h2 : (encO (emptyO k)).toArray[0]? = some (.int .u8 (((kindF k).val : Nat) : Int)) := rfl
    rw [h2, hkv.out] at h1
    exact h1
  by_cases h2 : 2 ≤ k
  · have h2i : (2 : Int) ≤ (k : Int) := by omega
    go_wp2_with fail
    refine (rrNum_any RD3.out 4294967295).mono ?_
    rintro e w3a ⟨rfl, kp, rd⟩
    have hn3 := rNum_le 4294967295 l1 e1
    obtain ⟨n3, l3, e3, hR3⟩ : ∃ x y z, rNum 4294967295 l1 e1 = (x, y, z) := ⟨_, _, _, rfl⟩
    rw [hR3] at hn3 rd
    rw [hR3]
    dsimp only at hn3 rd
    dsimp only
    have KO3a := Lib.hid (KO3.out.keep (kp.block go KO3.out.lt hog.out.1))
    have KR3a := Lib.hid (KR3.out.keep (kp.block gr KR3.out.lt (by omega)))
    have RD3a := Lib.hid rd
    have KW3a : Hid (Kept (fun k => k = g) w w3a) := KW3.out.trans kp fun _ e => .inl e
    replace hR3 := Lib.hid hR3
    clear kp rd KO3 KR3 RD3 KW3
    go_wp2_with fail
    refine (runpack19 n3 hn3 w3a).mono ?_
    rintro e w3b ⟨rfl, bb⟩
    have KO3b := Lib.hid (KO3a.out.ext bb)
    have KR3b := Lib.hid (KR3a.out.ext bb)
    have RD3b := Lib.hid (RD3a.out.ext bb)
    have KW3b : Hid (Kept (fun k => k = g) w w3b) := KW3a.out.then bb
    clear bb KO3a KR3a RD3a KW3a
    have KO3c := Lib.hid (op_set (j := 0) KO3b.out (unpackN n3))
    have TH3c := Lib.hid (there_op (j := 0) KO3b.out (unpackN n3))
    have kp : Kept (fun k => k = go) w3b (w3b.setCells go (offV 0) (encV (unpackN n3))) := (((Kept.refl (fun k => k = go) w3b).setCell (p := ⟨go, offV 0, none⟩) (.inl rfl) _).setCell (p := ⟨go, offV 0 + 1, none⟩) (.inl rfl) _).setCell (p := ⟨go, offV 0 + 1 + 1, none⟩) (.inl rfl) _
    have KR3c := Lib.hid (KR3b.out.keep (kp.block gr KR3b.out.lt (Ne.symm hog.out.2)))
    have RD3c : Hid (RrAt (w3b.setCells go (offV 0) (encV (unpackN n3))) B g l3 e3) := RD3b.out.keepB kp (fun e => hog.out.1 e.symm) hgB.out
    have KW3c : Hid (Kept (fun k => k = g) w (w3b.setCells go (offV 0) (encV (unpackN n3)))) := KW3b.out.trans kp fun x e => .inr (by rw [e]; exact hgoW.out)
    clear kp KO3b KR3b RD3b KW3b
    go_upto_region 5 with (refine wpList_store_mid rfl 98 _ _ rfl go (offV 0) (encV (unpackN n3)).toArray (by rfl) (by rfl) TH3c.out infoVid (all_oneCell_toArray (encV_one _)) ?_)
    generalize (w3b.setCells go (offV 0) (encV (unpackN n3)).toArray.toList) = w3c at *
    clear TH3c
    have yk : w3c.cell? ⟨go, 0, none⟩ = some (.int .u8 (k : Int)) := by
      have h1 := KO3c.out.cell 0
      have h2 : (encO (setV (emptyO k) 0 (unpackN n3))).toArray[0]? = some (.int .u8 (((kindF k).val : Nat) : Int)) := rfl
      rw [h2, hkv.out] at h1
      exact h1
    by_cases h4 : k = 4
    · have z4 : ((k : Int) == 4) = true := by rw [beq_iff_eq]; omega
      have z2 : ((k : Int) == 2) = false := by rw [beq_eq_false_iff_ne]; omega
      have z3 : ((k : Int) == 3) = false := by rw [beq_eq_false_iff_ne]; omega
      have hne : Hid (namedK k = false) := by rw [Hid, h4]; rfl
      replace h4 := Lib.hid h4
      go_wp2_with fail
      refine (rrNum_any RD3c.out 4294967295).mono ?_
      rintro e w3ca ⟨rfl, kp, rd⟩
      have hn3c := rNum_le 4294967295 l3 e3
      obtain ⟨n3c, l3c, e3c, hR3c⟩ : ∃ x y z, rNum 4294967295 l3 e3 = (x, y, z) := ⟨_, _, _, rfl⟩
      rw [hR3c] at hn3c rd
      rw [hR3c]
      dsimp only at hn3c rd
      dsimp only
      have KO3ca := Lib.hid (KO3c.out.keep (kp.block go KO3c.out.lt hog.out.1))
      have KR3ca := Lib.hid (KR3c.out.keep (kp.block gr KR3c.out.lt (by omega)))
      have RD3ca := Lib.hid rd
      have KW3ca : Hid (Kept (fun k => k = g) w w3ca) := KW3c.out.trans kp fun _ e => .inl e
      replace hR3c := Lib.hid hR3c
      clear kp rd KO3c KR3c RD3c KW3c
      go_wp2_with fail
      refine (runpack19 n3c hn3c w3ca).mono ?_
      rintro e w3cb ⟨rfl, bb⟩
      have KO3cb := Lib.hid (KO3ca.out.ext bb)
      have KR3cb := Lib.hid (KR3ca.out.ext bb)
      have RD3cb := Lib.hid (RD3ca.out.ext bb)
      have KW3cb : Hid (Kept (fun k => k = g) w w3cb) := KW3ca.out.then bb
      clear bb KO3ca KR3ca RD3ca KW3ca
      have KO3cc := Lib.hid (op_set (j := 1) KO3cb.out (unpackN n3c))
      have TH3cc := Lib.hid (there_op (j := 1) KO3cb.out (unpackN n3c))
      have kp : Kept (fun k => k = go) w3cb (w3cb.setCells go (offV 1) (encV (unpackN n3c))) := (((Kept.refl (fun k => k = go) w3cb).setCell (p := ⟨go, offV 1, none⟩) (.inl rfl) _).setCell (p := ⟨go, offV 1 + 1, none⟩) (.inl rfl) _).setCell (p := ⟨go, offV 1 + 1 + 1, none⟩) (.inl rfl) _
      have KR3cc := Lib.hid (KR3cb.out.keep (kp.block gr KR3cb.out.lt (Ne.symm hog.out.2)))
      have RD3cc : Hid (RrAt (w3cb.setCells go (offV 1) (encV (unpackN n3c))) B g l3c e3c) := RD3cb.out.keepB kp (fun e => hog.out.1 e.symm) hgB.out
      have KW3cc : Hid (Kept (fun k => k = g) w (w3cb.setCells go (offV 1) (encV (unpackN n3c)))) := KW3cb.out.trans kp fun x e => .inr (by rw [e]; exact hgoW.out)
      clear kp KO3cb KR3cb RD3cb KW3cb
      go_upto_region 7 with (refine wpList_store_mid rfl 98 _ _ rfl go (offV 1) (encV (unpackN n3c)).toArray (by rfl) (by rfl) TH3cc.out infoVid (all_oneCell_toArray (encV_one _)) ?_)
      generalize (w3cb.setCells go (offV 1) (encV (unpackN n3c)).toArray.toList) = w3cc at *
      clear TH3cc
      have yk : w3cc.cell? ⟨go, 0, none⟩ = some (.int .u8 (k : Int)) := by
        have h1 := KO3cc.out.cell 0
        have h2 : (encO (setV (setV (emptyO k) 0 (unpackN n3)) 1 (unpackN n3c))).toArray[0]? = some (.int .u8 (((kindF k).val : Nat) : Int)) := rfl
        rw [h2, hkv.out] at h1
        exact h1
      have hone2 : Hid (oneRd l e0 = ((setV (setV (emptyO k) 0 (unpackN n3)) 1 (unpackN n3c)), l3c, e3c)) := by
        rw [Hid, hone.out]
        unfold bindR
        unfold refsR
        rw [if_neg (by have := h4.out; omega), if_pos h4.out]
        unfold bindR
        rw [hR3.out]
        dsimp only
        rw [hR3c.out]
        unfold textR
        rw [if_neg (by rw [hne.out]; decide)]
        rfl
      clear hone
      have kp3 : Kept (fun k => k = gr) w3cc (w3cc.setRow gr (encO (setV (setV (emptyO k) 0 (unpackN n3)) 1 (unpackN n3c))).toArray) := kept_row (fun k => k = gr) w3cc rfl _
      go_wp2_with (first
        | (refine wpList_load_row rfl 152 _ (by rfl) go (by rfl) _ _ _ _ KO3cc.out underOp rfl infoOp ?_)
        | (refine wpList_store_row rfl 152 _ _ (by rfl) gr (encO (setV (setV (emptyO k) 0 (unpackN n3)) 1 (unpackN n3c))).toArray (by rfl) (by rfl) _ _ KR3cc.out infoOp rfl (all_oneCell_toArray (encO_one _)) ?_))
      refine bodyPost_ret (results_cell_row rfl _ _ gr _ (encO (setV (setV (emptyO k) 0 (unpackN n3)) 1 (unpackN n3c))).toArray _ _ rfl (KR3cc.out.row _) underOp rfl infoOp) rfl ?_
      rw [hone2.out]
      exact ⟨rfl, KW3cc.out.trans kp3 fun x e => .inr (by rw [e]; exact hgrW.out.1), RD3cc.out.keepB kp3 (by omega) hgrW.out.2⟩
    · have z4 : ((k : Int) == 4) = false := by rw [beq_eq_false_iff_ne]; omega
      by_cases h23 : k = 2 ∨ k = 3
      · have hnm : Hid (namedK k = true) := by rw [Hid]; unfold namedK; exact decide_eq_true h23
        have RT : Hid (oneRd l e0 = (((setV (emptyO k) 0 (unpackN n3)).1, (setV (emptyO k) 0 (unpackN n3)).2.1, (setV (emptyO k) 0 (unpackN n3)).2.2.1, bytesOf (rText 60 l3 e3).1), (rText 60 l3 e3).2.1, (rText 60 l3 e3).2.2)) := by
          rw [Hid, hone.out]
          unfold bindR
          unfold refsR
          rw [if_pos (by omega)]
          unfold bindR
          rw [hR3.out]
          unfold textR
          rw [if_pos hnm.out]
          rfl
        replace h4 := Lib.hid h4
        rcases h23 with h | h
        · have z2 : ((k : Int) == 2) = true := by rw [beq_iff_eq]; omega
          replace h := Lib.hid h
          go_wp2_with fail
          refine (rrText_any RD3c.out 60 (by omega)).mono ?_
          rintro e w3cx ⟨rfl, kp, rd⟩
          have KO3cx := Lib.hid (KO3c.out.keep (kp.block go KO3c.out.lt hog.out.1))
          have KR3cx := Lib.hid (KR3c.out.keep (kp.block gr KR3c.out.lt (by omega)))
          have RD3cx := Lib.hid rd
          have KW3cx : Hid (Kept (fun k => k = g) w w3cx) := KW3c.out.trans kp fun _ e => .inl e
          clear kp rd KO3c KR3c RD3c KW3c yk
          generalize bytesOf (rText 60 l3 e3).1 = T at *
          generalize (rText 60 l3 e3).2.1 = lt at *
          generalize (rText 60 l3 e3).2.2 = et at *
          have y7 : w3cx.cell? ⟨go, 7, none⟩ = some (.string ByteArray.empty) := KO3cx.out.cell 7
          have f7 : w3cx.frozen? ⟨go, 7, none⟩ = false := KO3cx.out.fr 7
          have kp : Kept (fun k => k = go) w3cx (w3cx.setCell ⟨go, 7, none⟩ (.string T)) := (Kept.refl (fun k => k = go) w3cx).setCell (p := ⟨go, 7, none⟩) (.inl rfl) _
          have KO3cy : Hid (Blk (w3cx.setCell ⟨go, 7, none⟩ (.string T)) go 152 (encO ((setV (emptyO k) 0 (unpackN n3)).1, (setV (emptyO k) 0 (unpackN n3)).2.1, (setV (emptyO k) 0 (unpackN n3)).2.2.1, T)).toArray) := KO3cx.out.set_ 7 (.string T)
          have KR3cy := Lib.hid (KR3cx.out.keep (kp.block gr KR3cx.out.lt (Ne.symm hog.out.2)))
          have RD3cy : Hid (RrAt (w3cx.setCell ⟨go, 7, none⟩ (.string T)) B g lt et) := RD3cx.out.keepB kp (fun e => hog.out.1 e.symm) hgB.out
          have KW3cy : Hid (Kept (fun k => k = g) w (w3cx.setCell ⟨go, 7, none⟩ (.string T))) := KW3cx.out.trans kp fun x e => .inr (by rw [e]; exact hgoW.out)
          go_upto_region 9 with fail
          clear y7 f7 kp KO3cx KR3cx RD3cx KW3cx
          generalize (w3cx.setCell ⟨go, 7, none⟩ (.string T)) = w3cy at *
          have hone2 : Hid (oneRd l e0 = (((setV (emptyO k) 0 (unpackN n3)).1, (setV (emptyO k) 0 (unpackN n3)).2.1, (setV (emptyO k) 0 (unpackN n3)).2.2.1, T), lt, et)) := by
            exact RT
          clear hone
          have kp3 : Kept (fun k => k = gr) w3cy (w3cy.setRow gr (encO ((setV (emptyO k) 0 (unpackN n3)).1, (setV (emptyO k) 0 (unpackN n3)).2.1, (setV (emptyO k) 0 (unpackN n3)).2.2.1, T)).toArray) := kept_row (fun k => k = gr) w3cy rfl _
          go_wp2_with (first
            | (refine wpList_load_row rfl 152 _ (by rfl) go (by rfl) _ _ _ _ KO3cy.out underOp rfl infoOp ?_)
            | (refine wpList_store_row rfl 152 _ _ (by rfl) gr (encO ((setV (emptyO k) 0 (unpackN n3)).1, (setV (emptyO k) 0 (unpackN n3)).2.1, (setV (emptyO k) 0 (unpackN n3)).2.2.1, T)).toArray (by rfl) (by rfl) _ _ KR3cy.out infoOp rfl (all_oneCell_toArray (encO_one _)) ?_))
          refine bodyPost_ret (results_cell_row rfl _ _ gr _ (encO ((setV (emptyO k) 0 (unpackN n3)).1, (setV (emptyO k) 0 (unpackN n3)).2.1, (setV (emptyO k) 0 (unpackN n3)).2.2.1, T)).toArray _ _ rfl (KR3cy.out.row _) underOp rfl infoOp) rfl ?_
          rw [hone2.out]
          exact ⟨rfl, KW3cy.out.trans kp3 fun x e => .inr (by rw [e]; exact hgrW.out.1), RD3cy.out.keepB kp3 (by omega) hgrW.out.2⟩
        · have z2 : ((k : Int) == 2) = false := by rw [beq_eq_false_iff_ne]; omega
          have z3 : ((k : Int) == 3) = true := by rw [beq_iff_eq]; omega
          replace h := Lib.hid h
          go_wp2_with fail
          refine (rrText_any RD3c.out 60 (by omega)).mono ?_
          rintro e w3cx ⟨rfl, kp, rd⟩
          have KO3cx := Lib.hid (KO3c.out.keep (kp.block go KO3c.out.lt hog.out.1))
          have KR3cx := Lib.hid (KR3c.out.keep (kp.block gr KR3c.out.lt (by omega)))
          have RD3cx := Lib.hid rd
          have KW3cx : Hid (Kept (fun k => k = g) w w3cx) := KW3c.out.trans kp fun _ e => .inl e
          clear kp rd KO3c KR3c RD3c KW3c yk
          generalize bytesOf (rText 60 l3 e3).1 = T at *
          generalize (rText 60 l3 e3).2.1 = lt at *
          generalize (rText 60 l3 e3).2.2 = et at *
          have y7 : w3cx.cell? ⟨go, 7, none⟩ = some (.string ByteArray.empty) := KO3cx.out.cell 7
          have f7 : w3cx.frozen? ⟨go, 7, none⟩ = false := KO3cx.out.fr 7
          have kp : Kept (fun k => k = go) w3cx (w3cx.setCell ⟨go, 7, none⟩ (.string T)) := (Kept.refl (fun k => k = go) w3cx).setCell (p := ⟨go, 7, none⟩) (.inl rfl) _
          have KO3cy : Hid (Blk (w3cx.setCell ⟨go, 7, none⟩ (.string T)) go 152 (encO ((setV (emptyO k) 0 (unpackN n3)).1, (setV (emptyO k) 0 (unpackN n3)).2.1, (setV (emptyO k) 0 (unpackN n3)).2.2.1, T)).toArray) := KO3cx.out.set_ 7 (.string T)
          have KR3cy := Lib.hid (KR3cx.out.keep (kp.block gr KR3cx.out.lt (Ne.symm hog.out.2)))
          have RD3cy : Hid (RrAt (w3cx.setCell ⟨go, 7, none⟩ (.string T)) B g lt et) := RD3cx.out.keepB kp (fun e => hog.out.1 e.symm) hgB.out
          have KW3cy : Hid (Kept (fun k => k = g) w (w3cx.setCell ⟨go, 7, none⟩ (.string T))) := KW3cx.out.trans kp fun x e => .inr (by rw [e]; exact hgoW.out)
          go_upto_region 9 with fail
          clear y7 f7 kp KO3cx KR3cx RD3cx KW3cx
          generalize (w3cx.setCell ⟨go, 7, none⟩ (.string T)) = w3cy at *
          have hone2 : Hid (oneRd l e0 = (((setV (emptyO k) 0 (unpackN n3)).1, (setV (emptyO k) 0 (unpackN n3)).2.1, (setV (emptyO k) 0 (unpackN n3)).2.2.1, T), lt, et)) := by
            exact RT
          clear hone
          have kp3 : Kept (fun k => k = gr) w3cy (w3cy.setRow gr (encO ((setV (emptyO k) 0 (unpackN n3)).1, (setV (emptyO k) 0 (unpackN n3)).2.1, (setV (emptyO k) 0 (unpackN n3)).2.2.1, T)).toArray) := kept_row (fun k => k = gr) w3cy rfl _
          go_wp2_with (first
            | (refine wpList_load_row rfl 152 _ (by rfl) go (by rfl) _ _ _ _ KO3cy.out underOp rfl infoOp ?_)
            | (refine wpList_store_row rfl 152 _ _ (by rfl) gr (encO ((setV (emptyO k) 0 (unpackN n3)).1, (setV (emptyO k) 0 (unpackN n3)).2.1, (setV (emptyO k) 0 (unpackN n3)).2.2.1, T)).toArray (by rfl) (by rfl) _ _ KR3cy.out infoOp rfl (all_oneCell_toArray (encO_one _)) ?_))
          refine bodyPost_ret (results_cell_row rfl _ _ gr _ (encO ((setV (emptyO k) 0 (unpackN n3)).1, (setV (emptyO k) 0 (unpackN n3)).2.1, (setV (emptyO k) 0 (unpackN n3)).2.2.1, T)).toArray _ _ rfl (KR3cy.out.row _) underOp rfl infoOp) rfl ?_
          rw [hone2.out]
          exact ⟨rfl, KW3cy.out.trans kp3 fun x e => .inr (by rw [e]; exact hgrW.out.1), RD3cy.out.keepB kp3 (by omega) hgrW.out.2⟩
      · have z2 : ((k : Int) == 2) = false := by rw [beq_eq_false_iff_ne]; omega
        have z3 : ((k : Int) == 3) = false := by rw [beq_eq_false_iff_ne]; omega
        have h5 : Hid (k = 5) := by rw [Hid]; omega
        have hne : Hid (namedK k = false) := by rw [Hid, h5.out]; rfl
        replace h4 := Lib.hid h4
        replace h23 := Lib.hid h23
        have hone2 : Hid (oneRd l e0 = ((setV (emptyO k) 0 (unpackN n3)), l3, e3)) := by
          rw [Hid, hone.out]
          unfold bindR
          unfold refsR
          rw [if_pos (by have := h5.out; omega)]
          unfold bindR
          rw [hR3.out]
          unfold textR
          rw [if_neg (by rw [hne.out]; decide)]
          rfl
        clear hone
        have kp3 : Kept (fun k => k = gr) w3c (w3c.setRow gr (encO (setV (emptyO k) 0 (unpackN n3))).toArray) := kept_row (fun k => k = gr) w3c rfl _
        go_wp2_with (first
          | (refine wpList_load_row rfl 152 _ (by rfl) go (by rfl) _ _ _ _ KO3c.out underOp rfl infoOp ?_)
          | (refine wpList_store_row rfl 152 _ _ (by rfl) gr (encO (setV (emptyO k) 0 (unpackN n3))).toArray (by rfl) (by rfl) _ _ KR3c.out infoOp rfl (all_oneCell_toArray (encO_one _)) ?_))
        refine bodyPost_ret (results_cell_row rfl _ _ gr _ (encO (setV (emptyO k) 0 (unpackN n3))).toArray _ _ rfl (KR3c.out.row _) underOp rfl infoOp) rfl ?_
        rw [hone2.out]
        exact ⟨rfl, KW3c.out.trans kp3 fun x e => .inr (by rw [e]; exact hgrW.out.1), RD3c.out.keepB kp3 (by omega) hgrW.out.2⟩
  · have h2i : ¬ (2 : Int) ≤ (k : Int) := by omega
    have z4 : ((k : Int) == 4) = false := by rw [beq_eq_false_iff_ne]; omega
    have z2 : ((k : Int) == 2) = false := by rw [beq_eq_false_iff_ne]; omega
    have z3 : ((k : Int) == 3) = false := by rw [beq_eq_false_iff_ne]; omega
    have hne : Hid (namedK k = false) := by rw [Hid]; unfold namedK; exact decide_eq_false (by omega)
    have hone2 : Hid (oneRd l e0 = ((emptyO k), l1, e1)) := by
      rw [Hid, hone.out]
      unfold bindR
      unfold refsR
      rw [if_neg (by omega), if_neg (by omega)]
      unfold textR
      rw [if_neg (by rw [hne.out]; decide)]
      rfl
    clear hone
    have kp3 : Kept (fun k => k = gr) w3 (w3.setRow gr (encO (emptyO k)).toArray) := kept_row (fun k => k = gr) w3 rfl _
    go_wp2_with (first
      | (refine wpList_load_row rfl 152 _ (by rfl) go (by rfl) _ _ _ _ KO3.out underOp rfl infoOp ?_)
      | (refine wpList_store_row rfl 152 _ _ (by rfl) gr (encO (emptyO k)).toArray (by rfl) (by rfl) _ _ KR3.out infoOp rfl (all_oneCell_toArray (encO_one _)) ?_))
    refine bodyPost_ret (results_cell_row rfl _ _ gr _ (encO (emptyO k)).toArray _ _ rfl (KR3.out.row _) underOp rfl infoOp) rfl ?_
    rw [hone2.out]
    exact ⟨rfl, KW3.out.trans kp3 fun x e => .inr (by rw [e]; exact hgrW.out.1), RD3.out.keepB kp3 (by omega) hgrW.out.2⟩
end Go.Proofs.YtdafiipedlglpaaGreatDoor
